/-
  Contracts of the program's functions for the statements OpenDisk, by the rules of the logic. Conditions: none but those in the theorems.
-/
import Derived.Test.YtfejjkndbpejbaaGreatQOD1
set_option maxHeartbeats 4000000
set_option maxRecDepth 100000
namespace Go.Proofs.YtfejjkndbpejbaaGreat
open Go.RowKit
open Go.Proofs
set_option linter.unusedVariables false
set_option linter.unusedSimpArgs false
theorem c1U {x : a0P} {b c : Bool} (h : (!a1D x || b || c) = false) : 0 ≤ x.2.2 ∧ x.2.2 ≤ 1000000 := by
 have hs : a1D x = true := by cases hh : a1D x <;> simp_all
 rw [b1M] at hs
 simp only [Bool.and_eq_true, decide_eq_true_eq] at hs
 omega
theorem c5I {x : a0P} {k : a0S} {r : a0y} (h : (!a1D x || !a1f k || !a1j r) = false) (hf : 0 ≤ a0R x k) : a1b x k r = ((x.1, a2R x.2.1 (a0R x k).toNat r, x.2.2), true) := by
 rw [a1b, if_neg (by rw [h]; simp), if_pos hf]
theorem c7G {x : a0P} {k : a0S} {r : a0y} (h : (!a1D x || !a1f k || !a1j r) = false) (hf : ¬ 0 ≤ a0R x k) (hl : (16 : Int) ≤ (x.2.1.length : Int)) : a1b x k r = (x, false) := by
 rw [a1b, if_neg (by rw [h]; simp), if_neg hf, if_pos (by omega)]
theorem b8b {x : a0P} {k : a0S} {r : a0y} {j : Nat} {a : Int} (h : (!a1D x || !a1f k || !a1j r) = false) (hf : ¬ 0 ≤ a0R x k) (hl : ¬ (16 : Int) ≤ (x.2.1.length : Int)) (hj : a2r k x.2.1 = j) (ha : a = a4k x k) : a1b x k r = ((x.1, a2a x.2.1 j (k, r), a), true) := by
 subst hj; subst ha
 rw [a1b, if_neg (by rw [h]; simp), if_neg hf, if_neg (by omega)]
theorem c5b {x : a0P} {k : a0S} (h : (decide (k.1 = 1) && (decide (x.2.2 + 1 ≤ k.2.1) && decide (k.2.1 ≤ 1000000))) = true) : k.2.1 = a4k x k := by rw [a4k, if_pos h]
theorem c8g {x : a0P} {k : a0S} (h : (decide (k.1 = 1) && (decide (x.2.2 + 1 ≤ k.2.1) && decide (k.2.1 ≤ 1000000))) = false) : x.2.2 = a4k x k := by rw [a4k, if_neg (by rw [h]; simp)]
theorem b2t {x : a0P} {k : a0S} {r : a0y} (hb : a0T x ≤ 1048576) (hb2 : r.length ≤ 1048576) : KFn Tryz.prog 111 [.agg [(.dv [] (.str (x.1))), (.dv [] (a0n (x.2.1))), (.dv [] (.int .i64 (x.2.2)))], .agg [(.dv [] (.int .i64 (k.1))), (.dv [] (.int .i64 (k.2.1))), (.dv [] (.str (k.2.2)))], .agg [(.dv [] (a0w (r)))]] (.tup [(true, [(.dv [] (.str ((a1b x k r).1.1))), (.key 9001), (.dv [] (.int .i64 ((a1b x k r).1.2.2)))]), (false, [(.dv [] (.bool ((a1b x k r).2)))])]) [(9001, some (a0b false (a0n ((a1b x k r).1.2.1))))] := by
 refine ⟨a0v Tryz.func111 rfl Tryz.ntmps111 Tryz.results111 rfl (fun C => ?_)⟩
 have hlen : x.2.1.length ≤ 1048576 := by have h3 : a0T x = x.1.size + (x.2.1.length + wSum a1e x.2.1) := rfl; omega
 refine yF 0 0 rfl rfl fun f0_0 => ?_
 refine yF 0 1 rfl rfl fun f0_1 => ?_
 refine yF 0 2 rfl rfl fun f0_2 => ?_
 refine yF 1 0 rfl rfl fun f1_0 => ?_
 refine yF 1 1 rfl rfl fun f1_1 => ?_
 refine yF 1 2 rfl rfl fun f1_2 => ?_
 refine yF 2 0 rfl rfl fun f2_0 => ?_
 iterate 10 refine z ?_
 refine zC Tryz.call73 ?_ (hf := b2z (s := x))
 iterate 3 refine z ?_
 refine a1N (a1A rfl rfl rfl rfl rfl) rfl rfl Tryz.call105 a5g (fun hg => (a0g (a0C rfl hg) (a0s (a0d a0c (a0d a0c (a0d a0c a0r)))) a0m)) rfl rfl ?_
 iterate 4 refine z ?_
 refine a1N (a1A rfl rfl rfl rfl rfl) rfl rfl Tryz.call107 a6g (fun hg => (a0g (a0C rfl hg) (a0s (a0d a0c a0r)) a0m)) rfl rfl ?_
 iterate 3 refine z ?_
 refine yQ rfl (fun c1 => ?_) fun c1 => ?_
 ·iterate 2 refine z ?_
  refine zK 8971 Tryz.call35 ?_ (hf := a7F (x := x) (by omega))
  iterate 3 refine z ?_
  rw [a1b, if_pos c1]
  refine a0h (σ' := ⟨[(6, .box 6 0), (7, .one (.dv [] (.bool (false))))], [(6, 67, [(.dv [] (.str ((x).1))), (.key 9001), (.dv [] (.int .i64 ((x).2.2)))])], [(9001, some (a0b false (a0n (x.2.1))))]⟩) (a0e ⟨rfl, rfl, trivial⟩ ⟨rfl, trivial⟩ ⟨rfl, trivial⟩ rfl) ?_
  iterate 2 refine z ?_
  refine a1h (a0F hT rfl rfl rfl rfl) (a0i rfl) rfl rfl ?_
  first | exact ⟨rfl, rfl⟩ | skip
 ·have hau := c1U c1
  iterate 4 refine z ?_
  refine zK 8971 Tryz.call35 ?_ (hf := a7F (x := x) (by omega))
  iterate 7 refine z ?_
  refine zC Tryz.call114 ?_ (hf := b0E)
  iterate 6 refine z ?_
  refine yQ rfl (fun c2 => ?_) fun c2 => ?_
  ·have d2 := of_decide_eq_true c2
   have hlt := a5J d2
   refine a0q ?_
   refine a1M (oB := [3, 4, 5, 6, 8]) (oK := [9001]) (by kernel_rfl) rfl rfl ?_
   refine zD 0 ?_
   refine zD 1 ?_
   refine zD 2 ?_
   refine zD 3 ?_
   refine a2j 9000 4 rfl (by kernel_rfl) rfl rfl rfl Tryz.call103 (a8d (by omega)) (a0g (a0a rfl) (a0s (a0d a0c a0r)) a0m) rfl rfl rfl rfl rfl ?_
   refine a2F 5 rfl (by kernel_rfl) rfl rfl (a2v (i := (a0R (x) (k)).toNat) hT rfl rfl rfl (a0a rfl) rfl (a0a rfl) (by omega) (by show _ < ((x.2.1)).length; omega)) rfl rfl rfl rfl ?_
   refine zD 6 ?_
   refine a4d [7] rfl rfl (by kernel_rfl) ?_
   refine a3g (js := [9003]) (cs := (a2R x.2.1 (a0R x k).toNat r).flatMap a0A) hT rfl rfl rfl rfl (a0a rfl) (a0a rfl) rfl rfl rfl rfl (a0t (a1i rfl) a1m rfl) (by decide) (by decide) rfl (by show _ ≤ List.length ((x.2.1).flatMap a0A); rw [b2X]; omega) (b9Y (by omega)) ?_
   simp only [a0l, a0j, SV.kill, CV.kill, kk, Nat.reduceBEq]
   refine z ?_
   refine a0q ?_
   refine a0h (a5L (k := 9001) (c' := a0b false (a0n (a2R x.2.1 (a0R x k).toNat r))) rfl (congrArg (fun n => KC.mk false 107 4 n ((a2R x.2.1 (a0R x k).toNat r).flatMap a0A)) b4a.symm) rfl) ?_
   refine a0k ?_
   iterate 4 refine z ?_
   rw [c5I c1 d2]
   refine a0h (σ' := ⟨[(6, .box 6 0), (7, .one (.dv [] (.bool (true))))], [(6, 67, [(.dv [] (.str ((x).1))), (.key 9001), (.dv [] (.int .i64 ((x).2.2)))])], [(9001, some (a0b false (a0n (a2R x.2.1 (a0R x k).toNat r))))]⟩) (a0e ⟨rfl, rfl, trivial⟩ ⟨rfl, trivial⟩ ⟨rfl, trivial⟩ rfl) ?_
   iterate 2 refine z ?_
   refine a1h (a0F hT rfl rfl rfl rfl) (a0i rfl) rfl rfl ?_
   first | exact ⟨rfl, rfl⟩ | skip
  ·have d2 := of_decide_eq_false c2
   iterate 9 refine z ?_
   refine yQ rfl (fun c3 => ?_) fun c3 => ?_
   ·have d3 := of_decide_eq_true c3
    iterate 5 refine z ?_
    rw [c7G c1 d2 d3]
    refine a0h (σ' := ⟨[(6, .box 6 0), (7, .one (.dv [] (.bool (false))))], [(6, 67, [(.dv [] (.str ((x).1))), (.key 9001), (.dv [] (.int .i64 ((x).2.2)))])], [(9001, some (a0b false (a0n (x.2.1))))]⟩) (a0e ⟨rfl, rfl, trivial⟩ ⟨rfl, trivial⟩ ⟨rfl, trivial⟩ rfl) ?_
    iterate 2 refine z ?_
    refine a1h (a0F hT rfl rfl rfl rfl) (a0i rfl) rfl rfl ?_
    first | exact ⟨rfl, rfl⟩ | skip
   ·have d3 := of_decide_eq_false c3
    iterate 7 refine z ?_
    refine a0X (ι := Nat) (fun zz => ⟨[(3, .box 3 0), (4, .box 4 0), (5, .box 5 0), (6, .box 6 0), (7, .one (.dv [] (.bool (false)))), (8, .box 8 0), (10, .one (.dv [] (.int .i64 ((zz : Int)))))], [(3, 67, [(.dv [] (.str (x.1))), (.dv [] (a0n (x.2.1))), (.dv [] (.int .i64 (x.2.2)))]), (4, 75, [(.dv [] (.int .i64 (k.1))), (.dv [] (.int .i64 (k.2.1))), (.dv [] (.str (k.2.2)))]), (5, 78, [(.dv [] (a0w (r)))]), (6, 67, [(.dv [] (.str (ByteArray.empty))), .nil, (.dv [] (.int .i64 (0)))]), (8, 67, [(.dv [] (.str ((x).1))), (.key 9001), (.dv [] (.int .i64 ((x).2.2)))])], [(9001, some (a0b false (.sl 107 4 (x.2.1.length) (x.2.1.flatMap a0A))))]⟩) (fun zz => zz ≤ x.2.1.length ∧ a2r k x.2.1 = zz + a2r k (x.2.1.drop zz)) (fun zz => x.2.1.length - zz) (0) ?_ (a0e ⟨rfl, rfl, rfl, rfl, rfl, rfl, rfl, trivial⟩ ⟨rfl, rfl, rfl, rfl, rfl, trivial⟩ ⟨rfl, trivial⟩ rfl) (fun zz hx => ?_)
    ·exact ⟨Nat.zero_le _, by simp⟩
    obtain ⟨j, rfl⟩ : ∃ v, v = zz := ⟨_, rfl⟩
    replace hx : j ≤ x.2.1.length ∧ a2r k x.2.1 = j + a2r k (x.2.1.drop j) := hx
    obtain ⟨hj, hp⟩ := hx
    show Ok _ _ _ _ _ (⟨[(3, .box 3 0), (4, .box 4 0), (5, .box 5 0), (6, .box 6 0), (7, .one (.dv [] (.bool (false)))), (8, .box 8 0), (10, .one (.dv [] (.int .i64 ((j : Int)))))], [(3, 67, [(.dv [] (.str (x.1))), (.dv [] (a0n (x.2.1))), (.dv [] (.int .i64 (x.2.2)))]), (4, 75, [(.dv [] (.int .i64 (k.1))), (.dv [] (.int .i64 (k.2.1))), (.dv [] (.str (k.2.2)))]), (5, 78, [(.dv [] (a0w (r)))]), (6, 67, [(.dv [] (.str (ByteArray.empty))), .nil, (.dv [] (.int .i64 (0)))]), (8, 67, [(.dv [] (.str ((x).1))), (.key 9001), (.dv [] (.int .i64 ((x).2.2)))])], [(9001, some (a0b false (.sl 107 4 (x.2.1.length) (x.2.1.flatMap a0A))))]⟩ : St)
    refine a0q ?_
    refine a0q ?_
    refine a1M (oB := [3, 4, 5, 6, 8]) (oK := [9001]) (by kernel_rfl) rfl rfl ?_
    refine zD 0 ?_
    refine zD 1 ?_
    refine zD 2 ?_
    refine zD 3 ?_
    refine zD 4 ?_
    refine zD 5 ?_
    refine zDG 6 ?_
    refine zDG 7 ?_
    refine zDG 8 ?_
    refine zDG 9 ?_
    refine zDG 10 ?_
    refine zDG 11 ?_
    refine zDG 12 ?_
    refine a4S 13 rfl (by kernel_rfl) (a1A rfl rfl rfl rfl rfl) rfl rfl Tryz.call108 a9u (fun hg => (a0g (a0C rfl hg) (a0s (a0d a0c (a0d a0c (a0d a0c a0r)))) (a0g (a0C rfl hg) (a0s (a0d a0c (a0d a0c (a0d a0c a0r)))) a0m))) rfl rfl ?_
    refine zDG 14 ?_
    refine zD 15 ?_
    refine a1J (by kernel_rfl) ?_
    refine z ?_
    refine yQ rfl (fun c4 => ?_) fun c4 => ?_
    ·have hst := b5K hp c4
     have hst1 := hst.1
     iterate 3 refine z ?_
     refine a0k ?_
     iterate 3 refine z ?_
     refine a1t ?_
     iterate 2 refine z ?_
     refine ⟨j + 1, ?_, ?_, a0e ⟨rfl, rfl, rfl, rfl, rfl, rfl, rfl, trivial⟩ ⟨rfl, rfl, rfl, rfl, rfl, trivial⟩ ⟨rfl, trivial⟩ rfl⟩
     ·exact ⟨by omega, hst.2⟩
     ·omega
    ·have hpos := b9W hj hp c4
     iterate 6 refine z ?_
     refine a2f (k := 65) hT rfl rfl rfl rfl rfl rfl rfl rfl ?_
     iterate 3 refine z ?_
     refine c5W (b8 := 8) (i8 := 1) (k := 65) (j := 9001) (s := 67) (n := (x.2.1.take j).length) (cs := (x.2.1.take j).flatMap a0A) (c2s := List.replicate (j * 4) .hole ++ (x.2.1.drop j).flatMap a0A) hT rfl rfl rfl (b3H hT rfl rfl rfl (a0a rfl) rfl (a0a rfl) (by omega) (by dsimp only [a0b]; omega)) rfl rfl rfl rfl rfl rfl rfl (a0a rfl) rfl rfl rfl rfl rfl rfl (by decide) rfl rfl ⟨rfl, rfl⟩ (by omega) (by dsimp only [a0b]; omega) (by dsimp only [a0b]; omega) (by dsimp only [a0b]; omega) (by rw [List.length_take, Nat.min_eq_left (by omega)]; simp) (b5t) (b6v) rfl rfl rfl ?_
     simp only [a0l, a0j, SV.kill, CV.kill, kk, Nat.reduceBEq]
     iterate 2 refine z ?_
     refine a0q ?_
     refine a5I [0, 1, 2, 3, 4, 5] (oB := [3, 4, 5, 6, 8]) (oK := [65, 9001]) (by kernel_rfl) rfl rfl ?_
     refine zD 0 ?_
     refine zD 1 ?_
     refine zD 2 ?_
     refine a2j 9000 3 rfl (by kernel_rfl) rfl rfl rfl Tryz.call103 (a8d (by omega)) (a0g (a0a rfl) (a0s (a0d a0c a0r)) a0m) rfl rfl rfl rfl rfl ?_
     refine a2F 4 rfl (by kernel_rfl) rfl rfl (a1x hT hB rfl rfl rfl (a1r (a0a rfl) rfl rfl rfl rfl rfl (a1r (a0a rfl) rfl rfl rfl rfl rfl a1w))) rfl rfl rfl rfl ?_
     refine a7c (k := 76) (js := [9003]) 5 hT rfl (by kernel_rfl) rfl rfl rfl rfl rfl rfl rfl rfl rfl (a0a rfl) rfl rfl (a0t (a0W rfl) (a0t (a0W rfl) (a0t (a0W rfl) (a0t (a1i rfl) a1m rfl) rfl) rfl) rfl) (by decide) (by decide) rfl rfl (by decide) ?_
     simp only [a0l, a0j, SV.kill, CV.kill, kk, Nat.reduceBEq]
     refine a4d [6, 7] rfl rfl (by kernel_rfl) ?_
     refine a3l (k := 65) (j := 76) (cs := (x.2.1.take j ++ [(k, r)]).flatMap a0A) (n := (x.2.1.take j ++ [(k, r)]).length) hT rfl rfl rfl rfl rfl rfl rfl (a0a rfl) rfl rfl rfl (a0a rfl) rfl rfl (by decide) (by dsimp only [a0b]; simp only [List.length_take]; omega) (by dsimp only [a0b]; simp only [List.length_take]; omega) (by simp) (by rw [List.flatMap_append]; rfl) ?_
     simp only [a0l, a0j, SV.kill, CV.kill, kk, Nat.reduceBEq]
     iterate 7 refine z ?_
     refine b4m (k := 65) (j := 9001) (s := 80) (n := (a2a x.2.1 j (k, r)).length) (cs := (a2a x.2.1 j (k, r)).flatMap a0A) (c2s := _) hT rfl rfl rfl (b2Z hT rfl rfl rfl (a0a rfl) rfl (a0a rfl) (by omega) (by dsimp only [a0b]; omega)) rfl rfl rfl rfl rfl rfl rfl (a0a rfl) rfl rfl rfl rfl rfl rfl (by decide) rfl rfl ⟨rfl, rfl⟩ (by dsimp only [a0b]; omega) (by dsimp only [a0b]; omega) (by dsimp only [a0b]; simp only [List.length_append, List.length_take, List.length_singleton]; omega) (by dsimp only [a0b]; simp only [List.length_append, List.length_take, List.length_singleton]; omega) (by rw [a8L]; simp; omega) (b9o hj) (rfl) ?_
     simp only [a0l, a0j, SV.kill, CV.kill, kk, Nat.reduceBEq]
     iterate 14 refine z ?_
     refine a1N (a1A rfl rfl rfl rfl rfl) rfl rfl Tryz.call77 a5U (fun hg => (a0g (a0C rfl hg) (a0D a0c) (a0g (a0C rfl hg) (a0D a0c) (a0g (a0p (a0o rfl)) (a0D a0c) a0m)))) rfl rfl ?_
     iterate 2 refine z ?_
     refine yQ rfl (fun c5 => ?_) fun c5 => ?_
     ·refine a0k ?_
      iterate 5 refine z ?_
      refine a0q ?_
      refine a0h (a5i (b := 8) (i := 1) (k := 65) (k' := 9001) rfl rfl rfl rfl (by decide) rfl rfl) ?_
      simp only [a0l, a0j, SV.kill, CV.kill, kk, Nat.reduceBEq]
      refine a0k ?_
      iterate 4 refine z ?_
      rw [b8b c1 d2 d3 hpos (c5b c5)]
      refine a0h (σ' := ⟨[(6, .box 6 0), (7, .one (.dv [] (.bool (true))))], [(6, 67, [(.dv [] (.str ((x).1))), (.key 9001), (.dv [] (.int .i64 (k.2.1)))])], [(9001, some (a0b false (a0n (a2a x.2.1 j (k, r)))))]⟩) (a0e ⟨rfl, rfl, trivial⟩ ⟨rfl, trivial⟩ ⟨rfl, trivial⟩ rfl) ?_
      refine z ?_
      refine a1h (a0F hT rfl rfl rfl rfl) (a0i rfl) rfl rfl ?_
      first | exact ⟨rfl, rfl⟩ | skip
     ·iterate 2 refine z ?_
      refine a0q ?_
      refine a0h (a5i (b := 8) (i := 1) (k := 65) (k' := 9001) rfl rfl rfl rfl (by decide) rfl rfl) ?_
      simp only [a0l, a0j, SV.kill, CV.kill, kk, Nat.reduceBEq]
      refine a0k ?_
      iterate 4 refine z ?_
      rw [b8b c1 d2 d3 hpos (c8g c5)]
      refine a0h (σ' := ⟨[(6, .box 6 0), (7, .one (.dv [] (.bool (true))))], [(6, 67, [(.dv [] (.str ((x).1))), (.key 9001), (.dv [] (.int .i64 ((x).2.2)))])], [(9001, some (a0b false (a0n (a2a x.2.1 j (k, r)))))]⟩) (a0e ⟨rfl, rfl, trivial⟩ ⟨rfl, trivial⟩ ⟨rfl, trivial⟩ rfl) ?_
      refine z ?_
      refine a1h (a0F hT rfl rfl rfl rfl) (a0i rfl) rfl rfl ?_
      first | exact ⟨rfl, rfl⟩ | skip
def a2I (x : a0P) (k : a0S) (r : a0y) : a0P × Bool := if 0 ≤ a0R x k then (x, false) else a1b x k r
theorem b7z {x : a0P} {k : a0S} {r : a0y} (h : 0 ≤ a0R x k) : a2I x k r = (x, false) := if_pos h
theorem b9p {x : a0P} {k : a0S} {r : a0y} (h : ¬ 0 ≤ a0R x k) : a2I x k r = a1b x k r := if_neg h
theorem c2c {x : a0P} {k : a0S} {r : a0y} (hb : a0T x ≤ 1048576) (hb2 : r.length ≤ 1048576) : KFn Tryz.prog 130 [.agg [(.dv [] (.str (x.1))), (.dv [] (a0n (x.2.1))), (.dv [] (.int .i64 (x.2.2)))], .agg [(.dv [] (.int .i64 (k.1))), (.dv [] (.int .i64 (k.2.1))), (.dv [] (.str (k.2.2)))], .agg [(.dv [] (a0w (r)))]] (.tup [(true, [(.dv [] (.str ((a2I x k r).1.1))), (.key 9001), (.dv [] (.int .i64 ((a2I x k r).1.2.2)))]), (false, [(.dv [] (.bool ((a2I x k r).2)))])]) [(9001, some (a0b false (a0n ((a2I x k r).1.2.1))))] := by
 refine ⟨a0v Tryz.func130 rfl Tryz.ntmps130 Tryz.results130 rfl (fun C => ?_)⟩
 refine yF 0 0 rfl rfl fun f0_0 => ?_
 refine yF 0 1 rfl rfl fun f0_1 => ?_
 refine yF 0 2 rfl rfl fun f0_2 => ?_
 refine yF 1 0 rfl rfl fun f1_0 => ?_
 refine yF 1 1 rfl rfl fun f1_1 => ?_
 refine yF 1 2 rfl rfl fun f1_2 => ?_
 refine yF 2 0 rfl rfl fun f2_0 => ?_
 iterate 11 refine z ?_
 refine zC Tryz.call128 ?_ (hf := b2o)
 iterate 2 refine z ?_
 refine yQ rfl (fun c1 => ?_) fun c1 => ?_
 ·have d1 := of_decide_eq_true c1
  iterate 2 refine z ?_
  refine zK 8971 Tryz.call46 ?_ (hf := a6x (x := x) (by omega))
  iterate 3 refine z ?_
  rw [b7z d1]
  refine a0h (σ' := ⟨[(6, .box 6 0), (7, .one (.dv [] (.bool (false))))], [(6, 67, [(.dv [] (.str ((x).1))), (.key 9001), (.dv [] (.int .i64 ((x).2.2)))])], [(9001, some (a0b false (a0n (x.2.1))))]⟩) (a0e ⟨rfl, rfl, trivial⟩ ⟨rfl, trivial⟩ ⟨rfl, trivial⟩ rfl) ?_
  iterate 2 refine z ?_
  refine a1h (a0F hT rfl rfl rfl rfl) (a0i rfl) rfl rfl ?_
  first | exact ⟨rfl, rfl⟩ | skip
 ·have d1 := of_decide_eq_false c1
  iterate 6 refine z ?_
  refine zK 0 Tryz.call129 ?_ (hf := b1e (x := x) (k := k) (r := r) (by omega) (by omega))
  iterate 5 refine z ?_
  rw [b9p d1]
  refine a0h (σ' := ⟨[(6, .box 6 0), (7, .one (.dv [] (.bool ((a1b (x) (k) (r)).2))))], [(6, 67, [(.dv [] (.str ((a1b (x) (k) (r)).1.1))), (.key 9001), (.dv [] (.int .i64 ((a1b (x) (k) (r)).1.2.2)))])], [(9001, some (a0b false (a0n ((a1b x k r).1.2.1))))]⟩) (a0e ⟨rfl, rfl, trivial⟩ ⟨rfl, trivial⟩ ⟨rfl, trivial⟩ rfl) ?_
  refine z ?_
  refine a1h (a0F hT rfl rfl rfl rfl) (a0i rfl) rfl rfl ?_
  first | exact ⟨rfl, rfl⟩ | skip
theorem c6R {x : a0P} {k : a0S} {r : a0y} (hb : a0T x ≤ 1048576) (hb2 : r.length ≤ 1048576) : KFn Tryz.prog 112 [.agg [(.dv [] (.str (x.1))), (.dv [] (a0n (x.2.1))), (.dv [] (.int .i64 (x.2.2)))], .agg [(.dv [] (.int .i64 (k.1))), (.dv [] (.int .i64 (k.2.1))), (.dv [] (.str (k.2.2)))], .agg [(.dv [] (a0w (r)))]] (.tup [(true, [(.dv [] (.str ((a2I x k r).1.1))), (.key 9001), (.dv [] (.int .i64 ((a2I x k r).1.2.2)))]), (false, [(.dv [] (.bool ((a2I x k r).2)))])]) [(9001, some (a0b false (a0n ((a2I x k r).1.2.1))))] := by
 refine ⟨a0v Tryz.func112 rfl Tryz.ntmps112 Tryz.results112 rfl (fun C => ?_)⟩
 refine yF 0 0 rfl rfl fun f0_0 => ?_
 refine yF 0 1 rfl rfl fun f0_1 => ?_
 refine yF 0 2 rfl rfl fun f0_2 => ?_
 refine yF 1 0 rfl rfl fun f1_0 => ?_
 refine yF 1 1 rfl rfl fun f1_1 => ?_
 refine yF 1 2 rfl rfl fun f1_2 => ?_
 refine yF 2 0 rfl rfl fun f2_0 => ?_
 iterate 11 refine z ?_
 refine zC Tryz.call114 ?_ (hf := b0E)
 iterate 2 refine z ?_
 refine yQ rfl (fun c1 => ?_) fun c1 => ?_
 ·have d1 := of_decide_eq_true c1
  iterate 2 refine z ?_
  refine zK 8971 Tryz.call35 ?_ (hf := a7F (x := x) (by omega))
  iterate 3 refine z ?_
  rw [b7z d1]
  refine a0h (σ' := ⟨[(6, .box 6 0), (7, .one (.dv [] (.bool (false))))], [(6, 67, [(.dv [] (.str ((x).1))), (.key 9001), (.dv [] (.int .i64 ((x).2.2)))])], [(9001, some (a0b false (a0n (x.2.1))))]⟩) (a0e ⟨rfl, rfl, trivial⟩ ⟨rfl, trivial⟩ ⟨rfl, trivial⟩ rfl) ?_
  iterate 2 refine z ?_
  refine a1h (a0F hT rfl rfl rfl rfl) (a0i rfl) rfl rfl ?_
  first | exact ⟨rfl, rfl⟩ | skip
 ·have d1 := of_decide_eq_false c1
  iterate 6 refine z ?_
  refine zK 0 Tryz.call111 ?_ (hf := b2t (x := x) (k := k) (r := r) (by omega) (by omega))
  iterate 5 refine z ?_
  rw [b9p d1]
  refine a0h (σ' := ⟨[(6, .box 6 0), (7, .one (.dv [] (.bool ((a1b (x) (k) (r)).2))))], [(6, 67, [(.dv [] (.str ((a1b (x) (k) (r)).1.1))), (.key 9001), (.dv [] (.int .i64 ((a1b (x) (k) (r)).1.2.2)))])], [(9001, some (a0b false (a0n ((a1b x k r).1.2.1))))]⟩) (a0e ⟨rfl, rfl, trivial⟩ ⟨rfl, trivial⟩ ⟨rfl, trivial⟩ rfl) ?_
  refine z ?_
  refine a1h (a0F hT rfl rfl rfl rfl) (a0i rfl) rfl rfl ?_
  first | exact ⟨rfl, rfl⟩ | skip
def uvL (n : Nat) : List UInt8 := if h : n < 128 then [UInt8.ofNat n] else UInt8.ofNat (n % 128 + 128) :: uvL (n / 128)
termination_by n
decreasing_by omega
theorem a7E {n : Nat} (h : n < 128) : uvL n = [UInt8.ofNat n] := by rw [uvL, dif_pos h]
theorem a8R {n : Nat} (h : ¬ n < 128) : uvL n = UInt8.ofNat (n % 128 + 128) :: uvL (n / 128) := by rw [uvL, dif_neg h]
def a2C (b : List UInt8) (n : Int) : List UInt8 := if 0 ≤ n ∧ n ≤ 1000000000000 then b ++ uvL n.toNat else b
theorem b7x {n : Int} (h : (!(decide (0 ≤ n) && decide (n ≤ 1000000000000))) = false) : 0 ≤ n ∧ n ≤ 1000000000000 := by simpa using h
theorem b6i {n : Int} (h : (!(decide (0 ≤ n) && decide (n ≤ 1000000000000))) = true) : ¬ (0 ≤ n ∧ n ≤ 1000000000000) := fun h2 => by
 rw [decide_eq_true h2.1, decide_eq_true h2.2] at h; cases h
theorem a7d {b : List UInt8} {n : Int} (h : 0 ≤ n ∧ n ≤ 1000000000000) : a2C b n = b ++ uvL n.toNat := if_pos h
theorem b1Z {b : List UInt8} {n : Int} (h : ¬ (0 ≤ n ∧ n ≤ 1000000000000)) : a2C b n = b := if_neg h
theorem b4l : ∀ (k n : Nat), n < 128 ^ (k + 1) → (uvL n).length ≤ k + 1
 | 0, n, h => by rw [a7E (by simpa using h)]; simp
 | k + 1, n, h => by
  by_cases h1 : n < 128
  ·rw [a7E h1]; simp
  ·rw [a8R h1, List.length_cons]
   have := b4l k (n / 128) (by rw [Nat.pow_succ] at h; omega)
   omega
theorem b4j {n : Nat} (h : n ≤ 1000000000000) : (uvL n).length ≤ 6 := b4l 5 n (by omega)
theorem a5E (b : List UInt8) (n : Int) : (a2C b n).length ≤ b.length + 6 := by
 unfold a2C
 split
 ·rename_i h
  have := b4j (n := n.toNat) (by omega)
  rw [List.length_append]; omega
 ·omega
theorem b6w {o x : List UInt8} {m n : Nat} (ho : o ++ uvL m = x ++ uvL n) (h : (128 : Int) ≤ (m : Int)) : (o ++ [UInt8.ofNat (m % 128 + 128)]) ++ uvL (m / 128) = x ++ uvL n := by
 rw [← ho, a8R (n := m) (by omega)]; simp
theorem b1i {x o : List UInt8} {n : Int} {m : Nat} (hr : 0 ≤ n ∧ n ≤ 1000000000000) (ho : o ++ uvL m = x ++ uvL n.toNat) (h : ¬ (128 : Int) ≤ (m : Int)) : o ++ [UInt8.ofNat m] = a2C x n := by
 rw [a7d hr, ← ho, a7E (n := m) (by omega)]
theorem c6w {m : Nat} (z : Int) (hz : z = (m : Int)) : IntKind.u8.wrap z = ((UInt8.ofNat m).toNat : Int) := by
 subst hz
 simp [IntKind.wrap, IntKind.signed, IntKind.bits]
theorem a7P {o : List UInt8} {m : Nat} {z : Int} (hz : z = (m : Int)) : o.flatMap a0V ++ [DV.int .u8 (IntKind.u8.wrap z)] = (o ++ [UInt8.ofNat m]).flatMap a0V := by
 rw [List.flatMap_append, c6w z hz]; rfl
theorem c8j {x : List UInt8} (hb : x.length ≤ 4398046511104) : KFn Tryz.prog 82 [.one (.dv [] (a0x (x)))] (.one (.key 3)) [(3, some (a0b false (a0x (x))))] := by
 refine ⟨a0v Tryz.func82 rfl Tryz.ntmps82 Tryz.results82 rfl (fun C => ?_)⟩
 refine a0E (x := .tmp 0) (a0a rfl) fun f0 => ?_
 iterate 4 refine z ?_
 refine a2f (k := 3) hT rfl rfl rfl rfl rfl rfl rfl rfl ?_
 refine z ?_
 refine a8y (k := 3) (cs := (x).flatMap a0V) (n := (x).length) hT rfl rfl rfl rfl rfl rfl rfl (a0a rfl) rfl rfl rfl (a0a rfl) (a3r (fun _ => rfl) _) (by first | (dsimp only [a0b]; omega) | omega) (by first | (dsimp only [a0b]; omega) | omega) (Nat.zero_add _) (rfl) ?_
 simp only [a0l, a0j, SV.kill, CV.kill, kk, Nat.reduceBEq]
 iterate 2 refine z ?_
 refine a0h (σ' := ⟨[(2, .one (.key 3))], [], [(3, some (a0b false (a0x (x))))]⟩) (a0e ⟨rfl, trivial⟩ trivial ⟨rfl, trivial⟩ rfl) ?_
 refine z ?_
 refine a1p (a0i rfl) ?_
 exact ⟨rfl, rfl⟩
theorem a9p {x : List UInt8} {n : Int} (hb : x.length ≤ 2199023255552) : KFn Tryz.prog 89 [.one (.dv [] (a0x (x))), .one (.dv [] (.int .i64 (n)))] (.one (.key 30)) [(30, some (a0b false (a0x (a2C x n))))] := by
 refine ⟨a0v Tryz.func89 rfl Tryz.ntmps89 Tryz.results89 rfl (fun C => ?_)⟩
 refine a0E (x := .tmp 0) (a0a rfl) fun f0 => ?_
 refine a0E (x := .tmp 1) (a0a rfl) fun f1 => ?_
 iterate 5 refine z ?_
 refine zK 27 Tryz.call82 ?_ (hf := c8j (x := x) (by omega))
 iterate 5 refine z ?_
 refine zC Tryz.call92 ?_ (hf := a6Q)
 iterate 2 refine z ?_
 refine yQ rfl (fun c1 => ?_) fun c1 => ?_
 ·have hno := b6i c1
  iterate 4 refine z ?_
  refine a0h (σ' := ⟨[(4, .one (.key 30))], [], [(30, some (a0b false (a0x (a2C x n))))]⟩) (a0e ⟨rfl, trivial⟩ trivial ⟨(congrArg (fun l : List UInt8 => some (some (KC.mk false 5 1 l.length (l.flatMap a0V)))) (by first | exact (b1Z hno).symm | exact (b1i hr ho d2))), trivial⟩ rfl) ?_
  iterate 2 refine z ?_
  refine a1p (a0i rfl) ?_
  exact ⟨rfl, rfl⟩
 ·have hr := b7x c1
  iterate 4 refine z ?_
  refine a0X (ι := Nat × List UInt8) (fun zz => ⟨[(1, .one (.dv [] (.int .i64 ((zz.1 : Int))))), (4, .one .nil), (5, .one (.key 30))], [], [(30, some (a0b false (.sl 5 1 (zz.2.length) (zz.2.flatMap a0V))))]⟩) (fun zz => zz.2 ++ uvL zz.1 = x ++ uvL n.toNat ∧ zz.1 ≤ 1000000000000) (fun zz => zz.1) ((n.toNat, x)) ?_ (a0e ⟨(congrArg (fun z : Int => some (SV.one (CV.dv [] (DV.int .i64 z)))) (show n = ((n.toNat : Nat) : Int) by omega)), rfl, rfl, trivial⟩ trivial ⟨rfl, trivial⟩ rfl) (fun zz hx => ?_)
  ·exact ⟨rfl, by dsimp only; omega⟩
  obtain ⟨m, o⟩ := zz
  replace hx : o ++ uvL m = x ++ uvL n.toNat ∧ m ≤ 1000000000000 := hx
  obtain ⟨ho, hm⟩ := hx
  have hl := congrArg List.length ho
  rw [List.length_append, List.length_append] at hl
  have hl2 := b4j (n := n.toNat) (by omega)
  show Ok _ _ _ _ _ (⟨[(1, .one (.dv [] (.int .i64 ((m : Int))))), (4, .one .nil), (5, .one (.key 30))], [], [(30, some (a0b false (.sl 5 1 (o.length) (o.flatMap a0V))))]⟩ : St)
  iterate 5 refine z ?_
  refine yQ rfl (fun c2 => ?_) fun c2 => ?_
  ·have d2 := of_decide_eq_true c2
   iterate 6 refine z ?_
   refine yO rfl rfl (b6D rfl (a0a rfl) (a0p (a0o rfl)) (by omega) (by omega)) rfl ?_
   refine z ?_
   refine yO rfl rfl (a4r hT rfl rfl rfl (a0a rfl)) rfl ?_
   refine a3B (k := 19) (js := []) hT rfl rfl rfl rfl rfl rfl rfl rfl rfl (a0a rfl) rfl rfl (a0t (a0W rfl) a1m rfl) (by decide) (by decide) rfl rfl ?_
   simp only [a0l, a0j, SV.kill, CV.kill, kk, Nat.reduceBEq]
   refine a3l (k := 30) (j := 19) (cs := (o ++ [UInt8.ofNat (m % 128 + 128)]).flatMap a0V) (n := (o ++ [UInt8.ofNat (m % 128 + 128)]).length) hT rfl rfl rfl rfl rfl rfl rfl (a0a rfl) rfl rfl rfl (a0a rfl) rfl rfl (by decide) (by dsimp only [a0b]; omega) (by dsimp only [a0b]; omega) (by simp) (a7P (by omega)) ?_
   simp only [a0l, a0j, SV.kill, CV.kill, kk, Nat.reduceBEq]
   iterate 2 refine z ?_
   refine a0k ?_
   refine z ?_
   refine yO rfl rfl (b4U rfl (a0a rfl) (a0p (a0o rfl)) (by omega) (by omega)) rfl ?_
   refine z ?_
   refine a1t ?_
   iterate 2 refine z ?_
   refine ⟨(m / 128, o ++ [UInt8.ofNat (m % 128 + 128)]), ?_, ?_, a0e ⟨rfl, rfl, rfl, trivial⟩ trivial ⟨rfl, trivial⟩ rfl⟩
   ·exact ⟨b6w ho d2, by dsimp only; omega⟩
   ·dsimp only; omega
  ·have d2 := of_decide_eq_false c2
   iterate 8 refine z ?_
   refine yO rfl rfl (a4r hT rfl rfl rfl (a0a rfl)) rfl ?_
   refine a3B (k := 26) (js := []) hT rfl rfl rfl rfl rfl rfl rfl rfl rfl (a0a rfl) rfl rfl (a0t (a0W rfl) a1m rfl) (by decide) (by decide) rfl rfl ?_
   simp only [a0l, a0j, SV.kill, CV.kill, kk, Nat.reduceBEq]
   refine a3l (k := 30) (j := 26) (cs := (o ++ [UInt8.ofNat m]).flatMap a0V) (n := (o ++ [UInt8.ofNat m]).length) hT rfl rfl rfl rfl rfl rfl rfl (a0a rfl) rfl rfl rfl (a0a rfl) rfl rfl (by decide) (by dsimp only [a0b]; omega) (by dsimp only [a0b]; omega) (by simp) (a7P rfl) ?_
   simp only [a0l, a0j, SV.kill, CV.kill, kk, Nat.reduceBEq]
   iterate 2 refine z ?_
   refine a0h (σ' := ⟨[(4, .one (.key 30))], [], [(30, some (a0b false (a0x (a2C x n))))]⟩) (a0e ⟨rfl, trivial⟩ trivial ⟨(congrArg (fun l : List UInt8 => some (some (KC.mk false 5 1 l.length (l.flatMap a0V)))) (by first | exact (b1Z hno).symm | exact (b1i hr ho d2))), trivial⟩ rfl) ?_
   refine z ?_
   refine a1p (a0i rfl) ?_
   exact ⟨rfl, rfl⟩
theorem b7H {x y : List UInt8} (hb : x.length ≤ 1099511627776) (hb2 : y.length ≤ 1099511627776) : KFn Tryz.prog 90 [.one (.dv [] (a0x (x))), .one (.dv [] (a0x (y)))] (.one (.key 8030)) [(8030, some (a0b false (a0x (a2C x (y.length : Int) ++ y))))] := by
 refine ⟨a0v Tryz.func90 rfl Tryz.ntmps90 Tryz.results90 rfl (fun C => ?_)⟩
 have hal := a5E x (y.length : Int)
 refine a0E (x := .tmp 0) (a0a rfl) fun f0 => ?_
 refine a0E (x := .tmp 1) (a0a rfl) fun f1 => ?_
 iterate 7 refine z ?_
 refine zK 8000 Tryz.call89 ?_ (hf := a9p (x := x) (n := (y.length : Int)) (by omega))
 refine z ?_
 refine a8y (k := 8030) (cs := (a2C x (y.length : Int) ++ y).flatMap a0V) (n := (a2C x (y.length : Int) ++ y).length) hT rfl rfl rfl rfl rfl rfl rfl (a0a rfl) rfl rfl rfl (a0a rfl) (a3r (fun _ => rfl) _) (by dsimp only [a0b, KC.old]; omega) (by dsimp only [a0b, KC.old]; omega) (by simp [a0b, KC.old]) (by rw [List.flatMap_append]; rfl) ?_
 simp only [a0l, a0j, SV.kill, CV.kill, kk, Nat.reduceBEq]
 iterate 2 refine z ?_
 refine a0h (σ' := ⟨[(4, .one (.key 8030))], [], [(8030, some (a0b false (a0x (a2C x (y.length : Int) ++ y))))]⟩) (a0e ⟨rfl, trivial⟩ trivial ⟨rfl, trivial⟩ rfl) ?_
 refine z ?_
 refine a1p (a0i rfl) ?_
 exact ⟨rfl, rfl⟩
theorem a8e {x : List UInt8} {n : Int} (hb : x.length ≤ 2199023255552) : KFn Tryz.prog 68 [.one (.dv [] (a0x (x))), .one (.dv [] (.int .i64 (n)))] (.one (.key 6)) [(6, some (a0b false (a0x (a2C x n))))] := by
 refine ⟨a0v Tryz.func68 rfl Tryz.ntmps68 Tryz.results68 rfl (fun C => ?_)⟩
 refine a0E (x := .tmp 0) (a0a rfl) fun f0 => ?_
 refine a0E (x := .tmp 1) (a0a rfl) fun f1 => ?_
 iterate 4 refine z ?_
 refine a2f (k := 6) hT rfl rfl rfl rfl rfl rfl rfl rfl ?_
 refine z ?_
 refine a8y (k := 6) (cs := (x).flatMap a0V) (n := (x).length) hT rfl rfl rfl rfl rfl rfl rfl (a0a rfl) rfl rfl rfl (a0a rfl) (a3r (fun _ => rfl) _) (by first | (dsimp only [a0b]; omega) | omega) (by first | (dsimp only [a0b]; omega) | omega) (Nat.zero_add _) (rfl) ?_
 simp only [a0l, a0j, SV.kill, CV.kill, kk, Nat.reduceBEq]
 iterate 5 refine z ?_
 refine zC Tryz.call77 ?_ (hf := a5U)
 iterate 2 refine z ?_
 refine yQ rfl (fun c1 => ?_) fun c1 => ?_
 ·have hno := b6i c1
  iterate 4 refine z ?_
  refine a0h (σ' := ⟨[(4, .one (.key 6))], [], [(6, some (a0b false (a0x (a2C x n))))]⟩) (a0e ⟨rfl, trivial⟩ trivial ⟨(congrArg (fun l : List UInt8 => some (some (KC.mk false 5 1 l.length (l.flatMap a0V)))) (by first | exact (b1Z hno).symm | exact (b1i hr ho (by omega)))), trivial⟩ rfl) ?_
  iterate 2 refine z ?_
  refine a1p (a0i rfl) ?_
  exact ⟨rfl, rfl⟩
 ·have hr := b7x c1
  iterate 4 refine z ?_
  refine a0X (ι := Nat × List UInt8) (fun zz => ⟨[(1, .one (.dv [] (.int .i64 ((zz.1 : Int))))), (4, .one .nil), (5, .one (.key 6))], [], [(6, some (a0b false (.sl 5 1 (zz.2.length) (zz.2.flatMap a0V))))]⟩) (fun zz => zz.2 ++ uvL zz.1 = x ++ uvL n.toNat ∧ zz.1 ≤ 1000000000000) (fun zz => zz.1) ((n.toNat, x)) ?_ (a0e ⟨(congrArg (fun z : Int => some (SV.one (CV.dv [] (DV.int .i64 z)))) (show n = ((n.toNat : Nat) : Int) by omega)), rfl, rfl, trivial⟩ trivial ⟨rfl, trivial⟩ rfl) (fun zz hx => ?_)
  ·exact ⟨rfl, by dsimp only; omega⟩
  obtain ⟨m, o⟩ := zz
  replace hx : o ++ uvL m = x ++ uvL n.toNat ∧ m ≤ 1000000000000 := hx
  obtain ⟨ho, hm⟩ := hx
  have hl := congrArg List.length ho
  rw [List.length_append, List.length_append] at hl
  have hl2 := b4j (n := n.toNat) (by omega)
  show Ok _ _ _ _ _ (⟨[(1, .one (.dv [] (.int .i64 ((m : Int))))), (4, .one .nil), (5, .one (.key 6))], [], [(6, some (a0b false (.sl 5 1 (o.length) (o.flatMap a0V))))]⟩ : St)
  iterate 5 refine z ?_
  refine yQ rfl (fun c2 => ?_) fun c2 => ?_
  ·have d2 := of_decide_eq_true c2
   iterate 6 refine z ?_
   refine yO rfl rfl (b6U rfl (a0a rfl) (a0p (a0o rfl)) (c5U (by omega) (by omega)) (a2y (by omega) (by omega))) rfl ?_
   refine yO rfl rfl (b5b rfl (a0a rfl) (a0p (a0o rfl)) (c6F (by omega) (by omega)) (a2y (by omega) (by omega))) rfl ?_
   refine yO rfl rfl (a4r hT rfl rfl rfl (a0a rfl)) rfl ?_
   refine a3B (k := 20) (js := []) hT rfl rfl rfl rfl rfl rfl rfl rfl rfl (a0a rfl) rfl rfl (a0t (a0W rfl) a1m rfl) (by decide) (by decide) rfl rfl ?_
   simp only [a0l, a0j, SV.kill, CV.kill, kk, Nat.reduceBEq]
   refine a3l (k := 6) (j := 20) (cs := (o ++ [UInt8.ofNat (m % 128 + 128)]).flatMap a0V) (n := (o ++ [UInt8.ofNat (m % 128 + 128)]).length) hT rfl rfl rfl rfl rfl rfl rfl (a0a rfl) rfl rfl rfl (a0a rfl) rfl rfl (by decide) (by dsimp only [a0b]; omega) (by dsimp only [a0b]; omega) (by simp) (a7P (by omega)) ?_
   simp only [a0l, a0j, SV.kill, CV.kill, kk, Nat.reduceBEq]
   iterate 2 refine z ?_
   refine a0k ?_
   refine z ?_
   refine yO rfl rfl (b3w rfl (a0a rfl) (a0p (a0o rfl)) (by omega) (by omega) (by show _ ≤ 64; omega)) rfl ?_
   refine z ?_
   refine a1t ?_
   iterate 2 refine z ?_
   refine ⟨(m / 128, o ++ [UInt8.ofNat (m % 128 + 128)]), ?_, ?_, a0e ⟨(congrArg (fun z : Int => some (SV.one (CV.dv [] (DV.int .i64 z)))) (show ((m : Int) / (2 ^ (7 : Int).toNat : Nat)) = ((m / 128 : Nat) : Int) by rw [show (2 ^ (7 : Int).toNat : Nat) = 128 from rfl]; omega)), rfl, rfl, trivial⟩ trivial ⟨rfl, trivial⟩ rfl⟩
   ·exact ⟨b6w ho (by omega), by dsimp only; omega⟩
   ·dsimp only; omega
  ·have d2 := of_decide_eq_false c2
   iterate 8 refine z ?_
   refine yO rfl rfl (a4r hT rfl rfl rfl (a0a rfl)) rfl ?_
   refine a3B (k := 27) (js := []) hT rfl rfl rfl rfl rfl rfl rfl rfl rfl (a0a rfl) rfl rfl (a0t (a0W rfl) a1m rfl) (by decide) (by decide) rfl rfl ?_
   simp only [a0l, a0j, SV.kill, CV.kill, kk, Nat.reduceBEq]
   refine a3l (k := 6) (j := 27) (cs := (o ++ [UInt8.ofNat m]).flatMap a0V) (n := (o ++ [UInt8.ofNat m]).length) hT rfl rfl rfl rfl rfl rfl rfl (a0a rfl) rfl rfl rfl (a0a rfl) rfl rfl (by decide) (by dsimp only [a0b]; omega) (by dsimp only [a0b]; omega) (by simp) (a7P rfl) ?_
   simp only [a0l, a0j, SV.kill, CV.kill, kk, Nat.reduceBEq]
   iterate 2 refine z ?_
   refine a0h (σ' := ⟨[(4, .one (.key 6))], [], [(6, some (a0b false (a0x (a2C x n))))]⟩) (a0e ⟨rfl, trivial⟩ trivial ⟨(congrArg (fun l : List UInt8 => some (some (KC.mk false 5 1 l.length (l.flatMap a0V)))) (by first | exact (b1Z hno).symm | exact (b1i hr ho (by omega)))), trivial⟩ rfl) ?_
   refine z ?_
   refine a1p (a0i rfl) ?_
   exact ⟨rfl, rfl⟩
theorem a8K {x y : List UInt8} (hb : x.length ≤ 1099511627776) (hb2 : y.length ≤ 1099511627776) : KFn Tryz.prog 70 [.one (.dv [] (a0x (x))), .one (.dv [] (a0x (y)))] (.one (.key 8006)) [(8006, some (a0b false (a0x (a2C x (y.length : Int) ++ y))))] := by
 refine ⟨a0v Tryz.func70 rfl Tryz.ntmps70 Tryz.results70 rfl (fun C => ?_)⟩
 have hal := a5E x (y.length : Int)
 refine a0E (x := .tmp 0) (a0a rfl) fun f0 => ?_
 refine a0E (x := .tmp 1) (a0a rfl) fun f1 => ?_
 iterate 7 refine z ?_
 refine zK 8000 Tryz.call68 ?_ (hf := a8e (x := x) (n := (y.length : Int)) (by omega))
 refine z ?_
 refine a8y (k := 8006) (cs := (a2C x (y.length : Int) ++ y).flatMap a0V) (n := (a2C x (y.length : Int) ++ y).length) hT rfl rfl rfl rfl rfl rfl rfl (a0a rfl) rfl rfl rfl (a0a rfl) (a3r (fun _ => rfl) _) (by dsimp only [a0b, KC.old]; omega) (by dsimp only [a0b, KC.old]; omega) (by simp [a0b, KC.old]) (by rw [List.flatMap_append]; rfl) ?_
 simp only [a0l, a0j, SV.kill, CV.kill, kk, Nat.reduceBEq]
 iterate 2 refine z ?_
 refine a0h (σ' := ⟨[(4, .one (.key 8006))], [], [(8006, some (a0b false (a0x (a2C x (y.length : Int) ++ y))))]⟩) (a0e ⟨rfl, trivial⟩ trivial ⟨rfl, trivial⟩ rfl) ?_
 refine z ?_
 refine a1p (a0i rfl) ?_
 exact ⟨rfl, rfl⟩
def be6 (n : Nat) : List UInt8 := (List.range 6).map fun j => UInt8.ofNat (n / 2 ^ (8 * (5 - j)))
def keyN (k : a0S) : Nat := (k.2.1 + 1000000000000).toNat
def a1o (k : a0S) : List UInt8 := if a1f k then (UInt8.ofNat k.1.toNat :: (if k.1 = 2 then [] else be6 (keyN k))) ++ k.2.2.data.toList else []
theorem a6D (n : Nat) : (be6 n).length = 6 := by simp [be6]
theorem b2Y {n j : Nat} (h : j < 6) : (be6 n).take (j + 1) = (be6 n).take j ++ [UInt8.ofNat (n / 2 ^ (8 * (5 - j)))] := by
 rw [List.take_add_one]
 congr 1
 simp [be6, h]
theorem a6N {k : a0S} (h : a1f k = true) : (1 ≤ k.1 ∧ k.1 ≤ 3) ∧ (-1000000000000 ≤ k.2.1 ∧ k.2.1 ≤ 1000000000000) ∧ k.2.2.size ≤ 12 := by
 simp only [a1f, a6F, Bool.and_eq_true, decide_eq_true_eq] at h
 omega
theorem a5R {k : a0S} (h : a1f k = false) : a1o k = [] := by rw [a1o, h]; rfl
theorem b2p {k : a0S} (h : a1f k = true) (h2 : k.1 = 2) : a1o k = [UInt8.ofNat k.1.toNat] ++ k.2.2.data.toList := by rw [a1o, if_pos h, if_pos h2]
theorem b0A {k : a0S} {j : Nat} (h : a1f k = true) (h2 : ¬ k.1 = 2) (hj : 6 ≤ j) : a1o k = (UInt8.ofNat k.1.toNat :: (be6 (keyN k)).take j) ++ k.2.2.data.toList := by
 rw [a1o, if_pos h, if_neg h2, List.take_of_length_le (by rw [a6D]; exact hj)]
theorem b9l {k : a0S} {j : Nat} (h : a1f k = true) (hj : k.1 = 2 → j = 0) (hc : (decide ((0 : Int) ≤ 5 - (j : Int)) && !decide (k.1 = 2)) = false) : a1o k = (UInt8.ofNat k.1.toNat :: (be6 (keyN k)).take j) ++ k.2.2.data.toList := by
 by_cases h2 : k.1 = 2
 ·rw [hj h2, b2p h h2]; rfl
 ·rw [decide_eq_false h2] at hc
  exact b0A h h2 (by have h3 := hc; simp at h3; omega)
theorem b1t (k : a0S) : (a1o k).length ≤ 19 := by
 unfold a1o
 split
 ·rename_i h
  have h1 := (a6N h).2.2
  have h2 : k.2.2.data.toList.length ≤ 12 := h1
  split
  ·simp only [List.length_append, List.length_cons, List.length_nil]; omega
  ·simp only [List.length_append, List.length_cons, a6D]; omega
 ·simp
theorem c1D (j : Nat) (hj : j < 6) : (2 ^ (8 * (5 - (j : Int))).toNat : Nat) = 2 ^ (8 * (5 - j)) := by
 rw [show (8 * (5 - (j : Int))).toNat = 8 * (5 - j) by omega]
theorem b5T {k : a0S} {j : Nat} (h : a1f k = true) (hj : j < 6) : (k.2.1 + 1000000000000) / ((2 ^ (8 * (5 - (j : Int))).toNat : Nat) : Int) = ((keyN k / 2 ^ (8 * (5 - j)) : Nat) : Int) := by
 have h1 := (a6N h).2.1
 rw [c1D j hj, show k.2.1 + 1000000000000 = ((keyN k : Nat) : Int) by unfold keyN; omega, Int.natCast_ediv]
theorem c4y {k : a0S} {j : Nat} (h : a1f k = true) (hj : j < 6) : ∃ q : Nat, (k.2.1 + 1000000000000) / ((2 ^ (8 * (5 - (j : Int))).toNat : Nat) : Int) = (q : Int) ∧ q ≤ 2000000000000 := by
 have h1 := (a6N h).2.1
 exact ⟨_, b5T h hj, Nat.le_trans (Nat.div_le_self _ _) (by unfold keyN; omega)⟩
theorem b5c {k : a0S} {j : Nat} {z : Int} (h : a1f k = true) (hj : j < 6) (hz : z = (k.2.1 + 1000000000000) / ((2 ^ (8 * (5 - (j : Int))).toNat : Nat) : Int)) :
  (UInt8.ofNat k.1.toNat :: (be6 (keyN k)).take j).flatMap a0V ++ [DV.int .u8 (IntKind.u8.wrap z)] = (UInt8.ofNat k.1.toNat :: (be6 (keyN k)).take (j + 1)).flatMap a0V := by
 rw [b5T h hj] at hz
 rw [a7P hz, b2Y hj]; rfl
theorem c3P (z : Int) : IntKind.u8.wrap (z % 256) = IntKind.u8.wrap z := by simp [IntKind.wrap, IntKind.signed, IntKind.bits]
theorem b3g {k : a0S} (h : a1f k = true) : [DV.int .u8 (IntKind.u8.wrap k.1)] = (UInt8.ofNat k.1.toNat :: (be6 (keyN k)).take 0).flatMap a0V := by
 have h1 := (a6N h).1
 exact a7P (o := []) (m := k.1.toNat) (by omega)
def a2K (r : a0y) : Nat → List UInt8
 | 0 => a2C [] (r.length : Int)
 | k + 1 => a2C (a2C (a2K r k) ((r.getD (k : Int).toNat default).1.data.toList.length : Int) ++ (r.getD (k : Int).toNat default).1.data.toList) (r.getD (k : Int).toNat default).2
def a2b (r : a0y) : List UInt8 := if a1j r then a2K r r.length else []
theorem a9h {r : a0y} (h : a1j r = false) : a2b r = [] := by rw [a2b, h]; rfl
theorem a7n {r : a0y} {k : Nat} (h : a1j r = true) (hk : k = r.length) : a2b r = a2K r k := by rw [a2b, if_pos h, hk]
theorem a6X {s : Str} (h : a3b s = true) : 1 ≤ s.size ∧ s.size ≤ 8 := by
 simp only [a3b, Bool.and_eq_true, decide_eq_true_eq] at h; omega
theorem a9l {r : a0y} {k : Nat} (h : a1j r = true) (hk : k < r.length) : a3b (r.getD (k : Int).toNat default).1 = true ∧ 0 ≤ (r.getD (k : Int).toNat default).2 ∧ (r.getD (k : Int).toNat default).2 ≤ 1000000000 := by
 simp only [a1j, Bool.and_eq_true, List.all_eq_true] at h
 have h1 := h.1 k (List.mem_range.2 hk)
 unfold a4T at h1
 simp only [Bool.not_or, Bool.not_not, Bool.and_eq_true, decide_eq_true_eq] at h1
 exact ⟨h1.1.1, h1.1.2.1, h1.1.2.2⟩
theorem b0F {r : a0y} (h : a1j r = true) : r.length ≤ 6 := by
 simp only [a1j, Bool.and_eq_true, decide_eq_true_eq] at h; omega
theorem b1c {r : a0y} (h : a1j r = true) : ∀ k, k ≤ r.length → (a2K r k).length ≤ 6 + 20 * k
 | 0, _ => by have := a5E [] (r.length : Int); simpa [a2K] using this
 | k + 1, hk => by
  have ih := b1c h k (by omega)
  have h1 := a6X (a9l h (show k < r.length by omega)).1
  have h1 : (r.getD (k : Int).toNat default).1.data.toList.length ≤ 8 := h1.2
  have h2 := a5E (a2K r k) ((r.getD (k : Int).toNat default).1.data.toList.length : Int)
  have h3 := a5E (a2C (a2K r k) ((r.getD (k : Int).toNat default).1.data.toList.length : Int) ++ (r.getD (k : Int).toNat default).1.data.toList) (r.getD (k : Int).toNat default).2
  rw [List.length_append] at h3
  rw [a2K]
  omega
theorem b1p (r : a0y) : (a2b r).length ≤ 126 := by
 unfold a2b
 split
 ·rename_i h
  have h1 := b1c h r.length (Nat.le_refl _)
  have h2 := b0F h
  omega
 ·simp
theorem a7A {k : a0S}  : KFn Tryz.prog 85 [.agg [(.dv [] (.int .i64 (k.1))), (.dv [] (.int .i64 (k.2.1))), (.dv [] (.str (k.2.2)))]] (.one (.key 12)) [(12, some (a0b false (a0x (a1o k))))] := by
 refine ⟨a0v Tryz.func85 rfl Tryz.ntmps85 Tryz.results85 rfl (fun C => ?_)⟩
 refine yF 0 0 rfl rfl fun f0_0 => ?_
 refine yF 0 1 rfl rfl fun f0_1 => ?_
 refine yF 0 2 rfl rfl fun f0_2 => ?_
 iterate 7 refine z ?_
 refine zC Tryz.call119 ?_ (hf := a6p (k := k) )
 iterate 2 refine z ?_
 refine yQ rfl (fun c1 => ?_) fun c1 => ?_
 ·have hk0 : a1f k = false := by simpa using c1
  refine z ?_
  refine a2f (k := 12) hT rfl rfl rfl rfl rfl rfl rfl rfl ?_
  iterate 2 refine z ?_
  refine a0h (σ' := ⟨[(2, .one (.key 12))], [], [(12, some (a0b false (a0x (a1o k))))]⟩) (a0e ⟨rfl, trivial⟩ trivial ⟨(by first | exact congrArg (fun l : List UInt8 => some (some (KC.mk false 5 1 l.length (l.flatMap a0V)))) (show ([] : List UInt8) = a1o k from (a5R hk0).symm) | rfl), trivial⟩ rfl) ?_
  iterate 2 refine z ?_
  refine a1p (a0i rfl) ?_
  exact ⟨rfl, rfl⟩
 ·have hk : a1f k = true := by simpa using c1
  have hrg := a6N hk
  iterate 5 refine z ?_
  refine yO rfl rfl (a4r hT rfl rfl rfl (a0a rfl)) rfl ?_
  refine a3B (k := 12) (js := []) hT rfl rfl rfl rfl rfl rfl rfl rfl rfl (a0a rfl) rfl rfl (a0t (a0W rfl) a1m rfl) (by decide) (by decide) rfl rfl ?_
  simp only [a0l, a0j, SV.kill, CV.kill, kk, Nat.reduceBEq]
  iterate 8 refine z ?_
  refine yQ rfl (fun c2 => ?_) fun c2 => ?_
  ·have hn2 : ¬ k.1 = 2 := by simpa using c2
   have d2 := a2D c2
   iterate 4 refine z ?_
   refine a0X (ι := Nat) (fun zz => ⟨[(1, .box 1 0), (2, .one .nil), (3, .one (.key 12)), (4, .one (.dv [] (.int .i64 (5 - (zz : Int)))))], [(1, 75, [(.dv [] (.int .i64 (k.1))), (.dv [] (.int .i64 (k.2.1))), (.dv [] (.str (k.2.2)))])], [(12, some (a0b false (.sl 5 1 ((UInt8.ofNat k.1.toNat :: (be6 (keyN k)).take zz).length) ((UInt8.ofNat k.1.toNat :: (be6 (keyN k)).take zz).flatMap a0V))))]⟩) (fun zz => zz ≤ 6) (fun zz => 6 - zz) (0) ?_ (a0e ⟨rfl, rfl, rfl, rfl, trivial⟩ ⟨rfl, trivial⟩ ⟨(congrArg (fun cs => some (some (KC.mk false 5 1 1 cs))) (b3g hk)), trivial⟩ rfl) (fun zz hx => ?_)
   ·omega
   obtain ⟨j, rfl⟩ : ∃ v, v = zz := ⟨_, rfl⟩
   replace hx : j ≤ 6 := hx
   show Ok _ _ _ _ _ (⟨[(1, .box 1 0), (2, .one .nil), (3, .one (.key 12)), (4, .one (.dv [] (.int .i64 (5 - (j : Int)))))], [(1, 75, [(.dv [] (.int .i64 (k.1))), (.dv [] (.int .i64 (k.2.1))), (.dv [] (.str (k.2.2)))])], [(12, some (a0b false (.sl 5 1 ((UInt8.ofNat k.1.toNat :: (be6 (keyN k)).take j).length) ((UInt8.ofNat k.1.toNat :: (be6 (keyN k)).take j).flatMap a0V))))]⟩ : St)
   iterate 5 refine z ?_
   refine yQ rfl (fun c3 => ?_) fun c3 => ?_
   ·have d3 := of_decide_eq_true c3
    have hj6 : j < 6 := by omega
    iterate 4 refine z ?_
    refine a0k ?_
    iterate 5 refine z ?_
    refine yO rfl rfl (b8I rfl (a0p (a0o rfl)) (a0a rfl) (a2y (by omega) (by omega))) rfl ?_
    refine yO rfl rfl (b3w rfl (a0a rfl) (a0a rfl) (by omega) (by omega) (by show _ ≤ 64; omega)) rfl ?_
    refine yO rfl rfl (a4r hT rfl rfl rfl (a0a rfl)) rfl ?_
    refine a3B (k := 28) (js := []) hT rfl rfl rfl rfl rfl rfl rfl rfl rfl (a0a rfl) rfl rfl (a0t (a0W rfl) a1m rfl) (by decide) (by decide) rfl rfl ?_
    simp only [a0l, a0j, SV.kill, CV.kill, kk, Nat.reduceBEq]
    refine a3l (k := 12) (j := 28) (cs := (UInt8.ofNat k.1.toNat :: (be6 (keyN k)).take (j + 1)).flatMap a0V) (n := (UInt8.ofNat k.1.toNat :: (be6 (keyN k)).take (j + 1)).length) hT rfl rfl rfl rfl rfl rfl rfl (a0a rfl) rfl rfl rfl (a0a rfl) rfl rfl (by decide) (by dsimp only [a0b]; simp only [List.length_cons, List.length_take]; omega) (by dsimp only [a0b]; simp only [List.length_cons, List.length_take]; omega) (by rw [b2Y hj6]; simp) (b5c hk hj6 rfl) ?_
    simp only [a0l, a0j, SV.kill, CV.kill, kk, Nat.reduceBEq]
    refine z ?_
    refine a1t ?_
    iterate 2 refine z ?_
    refine a0k ?_
    iterate 4 refine z ?_
    refine ⟨j + 1, ?_, ?_, a0e ⟨rfl, rfl, rfl, (a2O (by omega)), trivial⟩ ⟨rfl, trivial⟩ ⟨rfl, trivial⟩ rfl⟩
    ·omega
    ·omega
   ·have d3 := of_decide_eq_false c3
    iterate 9 refine z ?_
    refine b6k (k := 12) (cs := (a1o k).flatMap a0V) (n := (a1o k).length) hT rfl rfl rfl rfl rfl rfl (by kernel_rfl) rfl (a0a rfl) rfl rfl rfl (a0a rfl) (by dsimp only [a0b]; have := a6D (keyN k); have h12 := hrg.2.2; try simp only [List.length_cons, List.length_take]; omega) (by rw [b0A hk hn2 (show 6 ≤ j by omega), List.length_append] <;> rfl) (by rw [b0A hk hn2 (show 6 ≤ j by omega), List.flatMap_append] <;> rfl) ?_
    simp only [a0l, a0j, SV.kill, CV.kill, kk, Nat.reduceBEq]
    iterate 2 refine z ?_
    refine a0h (σ' := ⟨[(2, .one (.key 12))], [], [(12, some (a0b false (a0x (a1o k))))]⟩) (a0e ⟨rfl, trivial⟩ trivial ⟨(by first | exact congrArg (fun l : List UInt8 => some (some (KC.mk false 5 1 l.length (l.flatMap a0V)))) (show ([] : List UInt8) = a1o k from (a5R hk0).symm) | rfl), trivial⟩ rfl) ?_
    refine z ?_
    refine a1p (a0i rfl) ?_
    exact ⟨rfl, rfl⟩
  ·have hn2 : k.1 = 2 := by simpa using c2
   have d2 := a2E c2
   iterate 6 refine z ?_
   refine b6k (k := 12) (cs := (a1o k).flatMap a0V) (n := (a1o k).length) hT rfl rfl rfl rfl rfl rfl (by kernel_rfl) rfl (a0a rfl) rfl rfl rfl (a0a rfl) (by dsimp only [a0b]; have h12 := hrg.2.2; omega) (by rw [b2p hk hn2, List.length_append] <;> rfl) (by rw [b2p hk hn2, List.flatMap_append]; exact congrArg (fun z => z ++ _) (b3g hk)) ?_
   simp only [a0l, a0j, SV.kill, CV.kill, kk, Nat.reduceBEq]
   iterate 2 refine z ?_
   refine a0h (σ' := ⟨[(2, .one (.key 12))], [], [(12, some (a0b false (a0x (a1o k))))]⟩) (a0e ⟨rfl, trivial⟩ trivial ⟨(by first | exact congrArg (fun l : List UInt8 => some (some (KC.mk false 5 1 l.length (l.flatMap a0V)))) (show ([] : List UInt8) = a1o k from (a5R hk0).symm) | rfl), trivial⟩ rfl) ?_
   refine z ?_
   refine a1p (a0i rfl) ?_
   exact ⟨rfl, rfl⟩
theorem c5G {k : a0S}  : KFn Tryz.prog 71 [.agg [(.dv [] (.int .i64 (k.1))), (.dv [] (.int .i64 (k.2.1))), (.dv [] (.str (k.2.2)))]] (.one (.key 12)) [(12, some (a0b false (a0x (a1o k))))] := by
 refine ⟨a0v Tryz.func71 rfl Tryz.ntmps71 Tryz.results71 rfl (fun C => ?_)⟩
 refine yF 0 0 rfl rfl fun f0_0 => ?_
 refine yF 0 1 rfl rfl fun f0_1 => ?_
 refine yF 0 2 rfl rfl fun f0_2 => ?_
 iterate 7 refine z ?_
 refine zC Tryz.call105 ?_ (hf := a5g (k := k) )
 iterate 2 refine z ?_
 refine yQ rfl (fun c1 => ?_) fun c1 => ?_
 ·have hk0 : a1f k = false := by simpa using c1
  refine z ?_
  refine a2f (k := 12) hT rfl rfl rfl rfl rfl rfl rfl rfl ?_
  iterate 2 refine z ?_
  refine a0h (σ' := ⟨[(2, .one (.key 12))], [], [(12, some (a0b false (a0x (a1o k))))]⟩) (a0e ⟨rfl, trivial⟩ trivial ⟨(by first | exact congrArg (fun l : List UInt8 => some (some (KC.mk false 5 1 l.length (l.flatMap a0V)))) (show ([] : List UInt8) = a1o k from (a5R hk0).symm) | rfl), trivial⟩ rfl) ?_
  iterate 2 refine z ?_
  refine a1p (a0i rfl) ?_
  exact ⟨rfl, rfl⟩
 ·have hk : a1f k = true := by simpa using c1
  have hrg := a6N hk
  iterate 5 refine z ?_
  refine yO rfl rfl (a4r hT rfl rfl rfl (a0a rfl)) rfl ?_
  refine a3B (k := 12) (js := []) hT rfl rfl rfl rfl rfl rfl rfl rfl rfl (a0a rfl) rfl rfl (a0t (a0W rfl) a1m rfl) (by decide) (by decide) rfl rfl ?_
  simp only [a0l, a0j, SV.kill, CV.kill, kk, Nat.reduceBEq]
  iterate 7 refine z ?_
  refine a0X (ι := Nat) (fun zz => ⟨[(1, .box 1 0), (2, .one .nil), (3, .one (.key 12)), (4, .one (.dv [] (.int .i64 (5 - (zz : Int)))))], [(1, 75, [(.dv [] (.int .i64 (k.1))), (.dv [] (.int .i64 (k.2.1))), (.dv [] (.str (k.2.2)))])], [(12, some (a0b false (.sl 5 1 ((UInt8.ofNat k.1.toNat :: (be6 (keyN k)).take zz).length) ((UInt8.ofNat k.1.toNat :: (be6 (keyN k)).take zz).flatMap a0V))))]⟩) (fun zz => zz ≤ 6 ∧ (k.1 = 2 → zz = 0)) (fun zz => 6 - zz) (0) ?_ (a0e ⟨rfl, rfl, rfl, rfl, trivial⟩ ⟨rfl, trivial⟩ ⟨(congrArg (fun cs => some (some (KC.mk false 5 1 1 cs))) (b3g hk)), trivial⟩ rfl) (fun zz hx => ?_)
  ·exact ⟨by omega, fun _ => rfl⟩
  obtain ⟨j, rfl⟩ : ∃ v, v = zz := ⟨_, rfl⟩
  replace hx : j ≤ 6 ∧ (k.1 = 2 → j = 0) := hx
  obtain ⟨hj, hj2⟩ := hx
  show Ok _ _ _ _ _ (⟨[(1, .box 1 0), (2, .one .nil), (3, .one (.key 12)), (4, .one (.dv [] (.int .i64 (5 - (j : Int)))))], [(1, 75, [(.dv [] (.int .i64 (k.1))), (.dv [] (.int .i64 (k.2.1))), (.dv [] (.str (k.2.2)))])], [(12, some (a0b false (.sl 5 1 ((UInt8.ofNat k.1.toNat :: (be6 (keyN k)).take j).length) ((UInt8.ofNat k.1.toNat :: (be6 (keyN k)).take j).flatMap a0V))))]⟩ : St)
  iterate 10 refine z ?_
  refine yQ rfl (fun c2 => ?_) fun c2 => ?_
  ·have hj6 : j < 6 := by have := (Bool.and_eq_true _ _ ▸ c2 : _ ∧ _).1; have := of_decide_eq_true this; omega
   have hn2 : ¬ k.1 = 2 := by have := (Bool.and_eq_true _ _ ▸ c2 : _ ∧ _).2; simpa using this
   obtain ⟨q, hq, hqk⟩ := c4y hk hj6
   iterate 4 refine z ?_
   refine a0k ?_
   iterate 5 refine z ?_
   refine yO rfl rfl (b8I rfl (a0p (a0o rfl)) (a0a rfl) (a2y (by omega) (by omega))) rfl ?_
   refine yO rfl rfl (b3w rfl (a0a rfl) (a0a rfl) (by omega) (by omega) (by show _ ≤ 64; omega)) rfl ?_
   refine yO rfl rfl (b6U rfl (a0a rfl) (a0p (a0o rfl)) (c5o (by omega) (by omega)) (a2y (by omega) (by omega))) rfl ?_
   refine yO rfl rfl (a4r hT rfl rfl rfl (a0a rfl)) rfl ?_
   refine a3B (k := 31) (js := []) hT rfl rfl rfl rfl rfl rfl rfl rfl rfl (a0a rfl) rfl rfl (a0t (a0W rfl) a1m rfl) (by decide) (by decide) rfl rfl ?_
   simp only [a0l, a0j, SV.kill, CV.kill, kk, Nat.reduceBEq]
   refine a3l (k := 12) (j := 31) (cs := (UInt8.ofNat k.1.toNat :: (be6 (keyN k)).take (j + 1)).flatMap a0V) (n := (UInt8.ofNat k.1.toNat :: (be6 (keyN k)).take (j + 1)).length) hT rfl rfl rfl rfl rfl rfl rfl (a0a rfl) rfl rfl rfl (a0a rfl) rfl rfl (by decide) (by dsimp only [a0b]; simp only [List.length_cons, List.length_take]; omega) (by dsimp only [a0b]; simp only [List.length_cons, List.length_take]; omega) (by rw [b2Y hj6]; simp) (by rw [c3P]; exact b5c hk hj6 rfl) ?_
   simp only [a0l, a0j, SV.kill, CV.kill, kk, Nat.reduceBEq]
   refine z ?_
   refine a1t ?_
   iterate 2 refine z ?_
   refine a0k ?_
   iterate 4 refine z ?_
   refine ⟨j + 1, ?_, ?_, a0e ⟨rfl, rfl, rfl, (a2O (by omega)), trivial⟩ ⟨rfl, trivial⟩ ⟨rfl, trivial⟩ rfl⟩
   ·exact ⟨by omega, fun h => absurd h hn2⟩
   ·omega
  ·iterate 9 refine z ?_
   refine b8d (k := 36) hT rfl rfl rfl rfl rfl rfl rfl (a0a rfl) rfl ?_
   refine a3l (k := 12) (j := 36) (cs := (a1o k).flatMap a0V) (n := (a1o k).length) hT rfl rfl rfl rfl rfl rfl rfl (a0a rfl) rfl rfl rfl (a0a rfl) rfl rfl (by decide) (by dsimp only [a0b, KC.old]; have := a6D (keyN k); have h12 : k.2.2.data.toList.length ≤ 12 := hrg.2.2; simp only [List.length_cons, List.length_take]; omega) (by dsimp only [a0b, KC.old]; have := a6D (keyN k); have h12 : k.2.2.data.toList.length ≤ 12 := hrg.2.2; simp only [List.length_cons, List.length_take]; omega) (by rw [b9l hk hj2 c2, List.length_append] <;> rfl) (by rw [b9l hk hj2 c2, List.flatMap_append] <;> rfl) ?_
   simp only [a0l, a0j, SV.kill, CV.kill, kk, Nat.reduceBEq]
   iterate 2 refine z ?_
   refine a0h (σ' := ⟨[(2, .one (.key 12))], [], [(12, some (a0b false (a0x (a1o k))))]⟩) (a0e ⟨rfl, trivial⟩ trivial ⟨(by first | exact congrArg (fun l : List UInt8 => some (some (KC.mk false 5 1 l.length (l.flatMap a0V)))) (show ([] : List UInt8) = a1o k from (a5R hk0).symm) | rfl), trivial⟩ rfl) ?_
   refine z ?_
   refine a1p (a0i rfl) ?_
   exact ⟨rfl, rfl⟩
theorem a4O {r : a0y}  : KFn Tryz.prog 86 [.agg [(.dv [] (a0w (r)))]] (.one (.key 500)) [(500, some (a0b false (a0x (a2b r))))] := by
 refine ⟨a0v Tryz.func86 rfl Tryz.ntmps86 Tryz.results86 rfl (fun C => ?_)⟩
 refine yF 0 0 rfl rfl fun f0_0 => ?_
 iterate 7 refine z ?_
 refine zC Tryz.call120 ?_ (hf := a7i (r := r) )
 iterate 2 refine z ?_
 refine yQ rfl (fun c1 => ?_) fun c1 => ?_
 ·have hk0 : a1j r = false := by simpa using c1
  refine z ?_
  refine a2f (k := 500) hT rfl rfl rfl rfl rfl rfl rfl rfl ?_
  iterate 2 refine z ?_
  refine a0h (σ' := ⟨[(2, .one (.key 500))], [], [(500, some (a0b false (a0x (a2b r))))]⟩) (a0e ⟨rfl, trivial⟩ trivial ⟨(by first | exact congrArg (fun l : List UInt8 => some (some (KC.mk false 5 1 l.length (l.flatMap a0V)))) (show ([] : List UInt8) = a2b r from (a9h hk0).symm) | exact congrArg (fun l : List UInt8 => some (some (KC.mk false 5 1 l.length (l.flatMap a0V)))) (a7n hk (by omega)).symm), trivial⟩ rfl) ?_
  iterate 2 refine z ?_
  refine a1p (a0i rfl) ?_
  exact ⟨rfl, rfl⟩
 ·have hk : a1j r = true := by simpa using c1
  have hrl := b0F hk
  iterate 6 refine z ?_
  refine a2J 470 rfl rfl rfl Tryz.call89 (a9p (x := []) (n := (r.length : Int)) (by simp)) (a0g a0K (a0D (a5D rfl rfl)) (a0g (a0a rfl) (a0D a0c) a0m)) rfl rfl rfl ?_
  iterate 10 refine z ?_
  refine a0X (ι := Nat) (fun zz => ⟨[(2, .one .nil), (3, .one (.key 500)), (15, .one (.dv [] (a0w (r)))), (16, .one (.dv [] (.int .i64 ((((r)).length : Int))))), (17, .one (.dv [] (.int .i64 ((zz : Int)))))], [], [(500, some (a0b false (.sl 5 1 ((a2K r zz).length) ((a2K r zz).flatMap a0V))))]⟩) (fun zz => zz ≤ r.length) (fun zz => r.length - zz) (0) ?_ (a0e ⟨rfl, rfl, rfl, rfl, rfl, trivial⟩ trivial ⟨rfl, trivial⟩ rfl) (fun zz hx => ?_)
  ·exact Nat.zero_le _
  obtain ⟨k, rfl⟩ : ∃ v, v = zz := ⟨_, rfl⟩
  replace hx : k ≤ r.length := hx
  show Ok _ _ _ _ _ (⟨[(2, .one .nil), (3, .one (.key 500)), (15, .one (.dv [] (a0w (r)))), (16, .one (.dv [] (.int .i64 ((((r)).length : Int))))), (17, .one (.dv [] (.int .i64 ((k : Int)))))], [], [(500, some (a0b false (.sl 5 1 ((a2K r k).length) ((a2K r k).flatMap a0V))))]⟩ : St)
  iterate 3 refine z ?_
  refine a0q ?_
  refine yQ rfl (fun c2 => ?_) fun c2 => ?_
  ·have d2 := of_decide_eq_true c2
   have hkl : k < r.length := by omega
   have hf := a9l hk hkl
   have hns := (a6X hf.1).2
   have hns2 : (r.getD (k : Int).toNat default).1.data.toList.length ≤ 8 := hns
   have hel := b1c hk k (by omega)
   have hel2 := a5E (a2K r k) ((r.getD (k : Int).toNat default).1.data.toList.length : Int)
   iterate 10 refine z ?_
   refine a1M (oB := [5]) (oK := [500]) (by kernel_rfl) rfl rfl ?_
   refine zD 0 ?_
   refine zD 1 ?_
   refine zD 2 ?_
   refine zD 5 ?_
   refine zD 6 ?_
   refine a6a (k := 24) 3 hT rfl (by kernel_rfl) rfl rfl rfl rfl rfl rfl rfl (a0a rfl) rfl rfl rfl ?_
   refine a2j 25000 4 rfl (by kernel_rfl) rfl rfl rfl Tryz.call90 (b7H (x := (a2K r k)) (y := (r.getD (k : Int).toNat default).1.data.toList) (by omega) (by omega)) (a0g (a0a rfl) (a0D (a0Q rfl rfl)) (a0g (a0a rfl) (a0D (a0Q rfl rfl)) a0m)) rfl rfl rfl rfl rfl ?_
   refine a2j 472 7 rfl (by kernel_rfl) rfl rfl rfl Tryz.call89 (a9p (x := a2C (a2K r k) ((r.getD (k : Int).toNat default).1.data.toList.length : Int) ++ (r.getD (k : Int).toNat default).1.data.toList) (n := (r.getD (k : Int).toNat default).2) (by rw [List.length_append]; omega)) (a0g (a0a rfl) (a0D (a0Q rfl rfl)) (a0g (a0a rfl) (a0D a0c) a0m)) rfl rfl rfl rfl rfl ?_
   refine zD 8 ?_
   refine a1J (by kernel_rfl) ?_
   iterate 2 refine z ?_
   refine a0h (a8j (s := 3) (k := 502) (k' := 500) rfl rfl rfl (by decide) rfl) ?_
   simp only [a0l, a0j, SV.kill, CV.kill, kk, Nat.reduceBEq]
   refine a0k ?_
   iterate 3 refine z ?_
   refine ⟨k + 1, ?_, ?_, a0e ⟨rfl, rfl, rfl, rfl, rfl, trivial⟩ trivial ⟨rfl, trivial⟩ rfl⟩
   ·omega
   ·omega
  ·have d2 := of_decide_eq_false c2
   iterate 9 refine z ?_
   refine a0h (σ' := ⟨[(2, .one (.key 500))], [], [(500, some (a0b false (a0x (a2b r))))]⟩) (a0e ⟨rfl, trivial⟩ trivial ⟨(by first | exact congrArg (fun l : List UInt8 => some (some (KC.mk false 5 1 l.length (l.flatMap a0V)))) (show ([] : List UInt8) = a2b r from (a9h hk0).symm) | exact congrArg (fun l : List UInt8 => some (some (KC.mk false 5 1 l.length (l.flatMap a0V)))) (a7n hk (by omega)).symm), trivial⟩ rfl) ?_
   refine z ?_
   refine a1p (a0i rfl) ?_
   exact ⟨rfl, rfl⟩
theorem c7C {r : a0y}  : KFn Tryz.prog 72 [.agg [(.dv [] (a0w (r)))]] (.one (.key 500)) [(500, some (a0b false (a0x (a2b r))))] := by
 refine ⟨a0v Tryz.func72 rfl Tryz.ntmps72 Tryz.results72 rfl (fun C => ?_)⟩
 refine yF 0 0 rfl rfl fun f0_0 => ?_
 iterate 7 refine z ?_
 refine zC Tryz.call107 ?_ (hf := a6g (r := r) )
 iterate 2 refine z ?_
 refine yQ rfl (fun c1 => ?_) fun c1 => ?_
 ·have hk0 : a1j r = false := by simpa using c1
  refine z ?_
  refine a2f (k := 500) hT rfl rfl rfl rfl rfl rfl rfl rfl ?_
  iterate 2 refine z ?_
  refine a0h (σ' := ⟨[(2, .one (.key 500))], [], [(500, some (a0b false (a0x (a2b r))))]⟩) (a0e ⟨rfl, trivial⟩ trivial ⟨(by first | exact congrArg (fun l : List UInt8 => some (some (KC.mk false 5 1 l.length (l.flatMap a0V)))) (show ([] : List UInt8) = a2b r from (a9h hk0).symm) | exact congrArg (fun l : List UInt8 => some (some (KC.mk false 5 1 l.length (l.flatMap a0V)))) (a7n hk (by omega)).symm), trivial⟩ rfl) ?_
  iterate 2 refine z ?_
  refine a1p (a0i rfl) ?_
  exact ⟨rfl, rfl⟩
 ·have hk : a1j r = true := by simpa using c1
  have hrl := b0F hk
  iterate 3 refine z ?_
  refine a2f (k := 9) hT rfl rfl rfl rfl rfl rfl rfl rfl ?_
  iterate 3 refine z ?_
  refine a2J 494 rfl rfl rfl Tryz.call68 (a8e (x := []) (n := (r.length : Int)) (by simp)) (a0g (a0a rfl) (a0D (a0Q rfl rfl)) (a0g (a0a rfl) (a0D a0c) a0m)) rfl rfl rfl ?_
  iterate 7 refine z ?_
  refine a0X (ι := Nat) (fun zz => ⟨[(1, .box 1 0), (2, .one .nil), (3, .one (.key 500)), (4, .one (.dv [] (.int .i64 ((zz : Int)))))], [(1, 78, [(.dv [] (a0w (r)))])], [(500, some (a0b false (.sl 5 1 ((a2K r zz).length) ((a2K r zz).flatMap a0V))))]⟩) (fun zz => zz ≤ r.length) (fun zz => r.length - zz) (0) ?_ (a0e ⟨rfl, rfl, rfl, rfl, trivial⟩ ⟨rfl, trivial⟩ ⟨rfl, trivial⟩ rfl) (fun zz hx => ?_)
  ·exact Nat.zero_le _
  obtain ⟨k, rfl⟩ : ∃ v, v = zz := ⟨_, rfl⟩
  replace hx : k ≤ r.length := hx
  show Ok _ _ _ _ _ (⟨[(1, .box 1 0), (2, .one .nil), (3, .one (.key 500)), (4, .one (.dv [] (.int .i64 ((k : Int)))))], [(1, 78, [(.dv [] (a0w (r)))])], [(500, some (a0b false (.sl 5 1 ((a2K r k).length) ((a2K r k).flatMap a0V))))]⟩ : St)
  iterate 8 refine z ?_
  refine yQ rfl (fun c2 => ?_) fun c2 => ?_
  ·have d2 := of_decide_eq_true c2
   have hkl : k < r.length := by omega
   have hf := a9l hk hkl
   have hns := (a6X hf.1).2
   have hns2 : (r.getD (k : Int).toNat default).1.data.toList.length ≤ 8 := hns
   have hel := b1c hk k (by omega)
   have hel2 := a5E (a2K r k) ((r.getD (k : Int).toNat default).1.data.toList.length : Int)
   iterate 4 refine z ?_
   refine a1M (oB := [1]) (oK := [500]) (by kernel_rfl) rfl rfl ?_
   refine zD 0 ?_
   refine zD 1 ?_
   refine zD 2 ?_
   refine zD 3 ?_
   refine zD 4 ?_
   refine zD 5 ?_
   refine zD 6 ?_
   refine zD 9 ?_
   refine zD 10 ?_
   refine zD 11 ?_
   refine zD 12 ?_
   refine zD 13 ?_
   refine zD 14 ?_
   refine a6a (k := 28) 7 hT rfl (by kernel_rfl) rfl rfl rfl rfl rfl rfl rfl (a0a rfl) rfl rfl rfl ?_
   refine a2j 29000 8 rfl (by kernel_rfl) rfl rfl rfl Tryz.call70 (a8K (x := (a2K r k)) (y := (r.getD (k : Int).toNat default).1.data.toList) (by omega) (by omega)) (a0g (a0a rfl) (a0D (a0Q rfl rfl)) (a0g (a0a rfl) (a0D (a0Q rfl rfl)) a0m)) rfl rfl rfl rfl rfl ?_
   refine a2j 496 15 rfl (by kernel_rfl) rfl rfl rfl Tryz.call68 (a8e (x := a2C (a2K r k) ((r.getD (k : Int).toNat default).1.data.toList.length : Int) ++ (r.getD (k : Int).toNat default).1.data.toList) (n := (r.getD (k : Int).toNat default).2) (by rw [List.length_append]; omega)) (a0g (a0a rfl) (a0D (a0Q rfl rfl)) (a0g (a0a rfl) (a0D a0c) a0m)) rfl rfl rfl rfl rfl ?_
   refine zD 16 ?_
   refine a1J (by kernel_rfl) ?_
   iterate 2 refine z ?_
   refine a0h (a8j (s := 3) (k := 502) (k' := 500) rfl rfl rfl (by decide) rfl) ?_
   simp only [a0l, a0j, SV.kill, CV.kill, kk, Nat.reduceBEq]
   refine a0k ?_
   iterate 4 refine z ?_
   refine ⟨k + 1, ?_, ?_, a0e ⟨rfl, rfl, rfl, rfl, trivial⟩ ⟨rfl, trivial⟩ ⟨rfl, trivial⟩ rfl⟩
   ·omega
   ·omega
  ·have d2 := of_decide_eq_false c2
   iterate 9 refine z ?_
   refine a0h (σ' := ⟨[(2, .one (.key 500))], [], [(500, some (a0b false (a0x (a2b r))))]⟩) (a0e ⟨rfl, trivial⟩ trivial ⟨(by first | exact congrArg (fun l : List UInt8 => some (some (KC.mk false 5 1 l.length (l.flatMap a0V)))) (show ([] : List UInt8) = a2b r from (a9h hk0).symm) | exact congrArg (fun l : List UInt8 => some (some (KC.mk false 5 1 l.length (l.flatMap a0V)))) (a7n hk (by omega)).symm), trivial⟩ rfl) ?_
   refine z ?_
   refine a1p (a0i rfl) ?_
   exact ⟨rfl, rfl⟩
theorem c4i (z : Int) (h : 0 ≤ z) : IntKind.u8.wrap z = ((UInt8.ofNat (z % 256).toNat).toNat : Int) := by
 simp [IntKind.wrap, IntKind.signed, IntKind.bits]
 omega
theorem c2U {x : List (UInt8)} {k : Int} (h0 : 0 ≤ k) (h1 : k + (wSum a2X x : Int) ≤ 4611686018427387904) : WFn Tryz.prog 28 [.one (.key 0), .one (.dv [] (.int .i64 (k)))] (.one (.dv [] (.int .i64 (k + (wSum a2X x : Int))))) [(0, a0b true (.sl 5 1 (x.length) (x.flatMap a0V)))] [(0, a0b true (a0x (mkL a6t a2X x k)))] := by
 refine ⟨a0v Tryz.func28 rfl Tryz.ntmps28 Tryz.results28 rfl (fun C => ?_)⟩
 have hln : x.length ≤ wSum a2X x := a8X (fun _ => by simp only [a2X]; omega) x
 refine a0E (x := .tmp 1) (a0a rfl) fun f1 => ?_
 iterate 8 refine z ?_
 refine a0X (ι := Nat) (fun zz => ⟨[(0, .one (.key 0)), (1, .one (.dv [] (.int .i64 (k + (wSum a2X (x.take zz) : Int))))), (4, .one (.dv [] (.int .i64 (0)))), (5, .one (.dv [] (.int .i64 ((zz : Int)))))], [], [(0, some ⟨true, 5, 1, x.length, (mkL a6t a2X (x.take zz) k).flatMap a0V ++ (x.drop zz).flatMap a0V⟩)]⟩) (fun zz => zz ≤ x.length) (fun zz => x.length - zz) (0) ?_ (a0e ⟨rfl, (a2O (by simp [wSum])), rfl, rfl, trivial⟩ trivial ⟨rfl, trivial⟩ rfl) (fun zz hx => ?_)
 ·exact Nat.zero_le _
 obtain ⟨j, rfl⟩ : ∃ v, v = zz := ⟨_, rfl⟩
 replace hx : j ≤ x.length := hx
 have hw := fun h => a2T a2X x j h
 show Ok _ _ _ _ _ (⟨[(0, .one (.key 0)), (1, .one (.dv [] (.int .i64 (k + (wSum a2X (x.take j) : Int))))), (4, .one (.dv [] (.int .i64 (0)))), (5, .one (.dv [] (.int .i64 ((j : Int)))))], [], [(0, some ⟨true, 5, 1, x.length, (mkL a6t a2X (x.take j) k).flatMap a0V ++ (x.drop j).flatMap a0V⟩)]⟩ : St)
 iterate 4 refine z ?_
 refine yO rfl rfl (a2S (n := (x.length)) hT rfl rfl (a0a rfl) rfl rfl) rfl ?_
 iterate 2 refine z ?_
 refine yQ rfl (fun c1 => ?_) fun c1 => ?_
 ·have d1 := of_decide_eq_true c1
  have hj : j < x.length := by omega
  obtain ⟨hw1, hw2⟩ := hw hj
  have hc : a2X (x.getD (j : Int).toNat default) = 1 := rfl
  refine b0j (k := 0) (cs' := mid ((mkL a6t a2X (x.take j) k).flatMap a0V) [.int .u8 ((((x.getD (j : Int).toNat default)).toNat : Int))] ((x.drop (j + 1)).flatMap a0V)) rfl (a9f hj) ?_
  iterate 8 refine z ?_
  refine yO rfl rfl (a4r hT rfl rfl rfl (a0a rfl)) rfl ?_
  refine yO rfl rfl (a2v (i := j) hT rfl rfl rfl (a0a rfl) rfl (a0a rfl) rfl (by show _ < (x.length); omega)) rfl ?_
  refine a3g (js := []) (cs := mid ((mkL a6t a2X (x.take j) k).flatMap a0V) [.int .u8 (IntKind.u8.wrap (k + (wSum a2X (x.take j) : Int)))] ((x.drop (j + 1)).flatMap a0V)) hT rfl rfl rfl rfl (a0a rfl) (a0a rfl) rfl rfl rfl rfl (a0t (a0W rfl) a1m rfl) (by decide) (by decide) rfl (a5y (off := j * 1) (n := 1) (j := 0) (a2M (sz := 1) (fun _ => rfl) (Nat.le_of_lt hj)) (by omega) (Nat.le_of_ble_eq_true rfl)) (a4I (off := j * 1) (j := 0) (a2M (sz := 1) (fun _ => rfl) (Nat.le_of_lt hj)) (by omega) rfl (Nat.le_of_ble_eq_true rfl)) ?_
  simp only [a0l, a0j, SV.kill, CV.kill, kk, Nat.reduceBEq]
  refine z ?_
  refine a0k ?_
  iterate 3 refine z ?_
  refine a1t ?_
  iterate 2 refine z ?_
  refine a0k ?_
  iterate 4 refine z ?_
  refine ⟨j + 1, ?_, ?_, a0e ⟨rfl, (a2O (by omega)), rfl, rfl, trivial⟩ trivial ⟨(congrArg (fun cs => some (some (KC.mk true 5 1 x.length cs))) (a8Y (by omega) (congrArg (fun z => [DV.int .u8 z]) (c4i _ (by omega))))), trivial⟩ rfl⟩
  ·omega
  ·omega
 ·have d1 := of_decide_eq_false c1
  iterate 9 refine z ?_
  refine a0h (σ' := ⟨[(4, .one (.dv [] (.int .i64 (k + (wSum a2X (x.take j) : Int)))))], [], [(0, some (a0b true (a0x (mkL a6t a2X x k))))]⟩) (a0e ⟨rfl, trivial⟩ trivial ⟨(b0l (by omega)), trivial⟩ rfl) ?_
  refine z ?_
  refine a1p (a0i rfl) ⟨eqI ?_, b0k rfl⟩
  have hq := a4w a2X x j (by omega); omega
def a3V (x : a2V) (k : Int) : a2V := (a3H (k), a3H ((k) + (1)))
def a1H (x : a2V) : Nat := 2
theorem b9b (x : a2V) : a1H x ≤ 8 * (1 + a1s x) := by
 simp only [a1H]
 omega
def c1R (x : DbT) (k : Int) : DbT := (x.1, x.2.1, mkL a3P a1q (x.2.2.1) (k), mkL a3V a1H (x.2.2.2) ((k) + (wSum a1q (x.2.2.1) : Int)))
theorem c5y {x : List (a2V)} {k : Int} (h0 : 0 ≤ k) (h1 : k + (wSum a1H x : Int) ≤ 4611686018427387904) : WFn Tryz.prog 30 [.one (.key 0), .one (.dv [] (.int .i64 (k)))] (.one (.dv [] (.int .i64 (k + (wSum a1H x : Int))))) [(0, a0b true (.sl 97 2 (x.length) (x.flatMap a1O)))] [(0, a0b true (a0B (mkL a3V a1H x k)))] := by
 refine ⟨a0v Tryz.func30 rfl Tryz.ntmps30 Tryz.results30 rfl (fun C => ?_)⟩
 have hln : x.length ≤ wSum a1H x := a8X (fun _ => by simp only [a1H]; omega) x
 refine a0E (x := .tmp 1) (a0a rfl) fun f1 => ?_
 iterate 8 refine z ?_
 refine a0X (ι := Nat) (fun zz => ⟨[(0, .one (.key 0)), (1, .one (.dv [] (.int .i64 (k + (wSum a1H (x.take zz) : Int))))), (4, .one (.dv [] (.int .i64 (0)))), (5, .one (.dv [] (.int .i64 ((zz : Int)))))], [], [(0, some ⟨true, 97, 2, x.length, (mkL a3V a1H (x.take zz) k).flatMap a1O ++ (x.drop zz).flatMap a1O⟩)]⟩) (fun zz => zz ≤ x.length) (fun zz => x.length - zz) (0) ?_ (a0e ⟨rfl, (a2O (by simp [wSum])), rfl, rfl, trivial⟩ trivial ⟨rfl, trivial⟩ rfl) (fun zz hx => ?_)
 ·exact Nat.zero_le _
 obtain ⟨j, rfl⟩ : ∃ v, v = zz := ⟨_, rfl⟩
 replace hx : j ≤ x.length := hx
 have hw := fun h => a2T a1H x j h
 show Ok _ _ _ _ _ (⟨[(0, .one (.key 0)), (1, .one (.dv [] (.int .i64 (k + (wSum a1H (x.take j) : Int))))), (4, .one (.dv [] (.int .i64 (0)))), (5, .one (.dv [] (.int .i64 ((j : Int)))))], [], [(0, some ⟨true, 97, 2, x.length, (mkL a3V a1H (x.take j) k).flatMap a1O ++ (x.drop j).flatMap a1O⟩)]⟩ : St)
 iterate 4 refine z ?_
 refine yO rfl rfl (a2S (n := (x.length)) hT rfl rfl (a0a rfl) rfl rfl) rfl ?_
 iterate 2 refine z ?_
 refine yQ rfl (fun c1 => ?_) fun c1 => ?_
 ·have d1 := of_decide_eq_true c1
  have hj : j < x.length := by omega
  obtain ⟨hw1, hw2⟩ := hw hj
  have hc : a1H (x.getD (j : Int).toNat default) = 2 := rfl
  refine b0j (k := 0) (cs' := mid ((mkL a3V a1H (x.take j) k).flatMap a1O) [.str ((x.getD (j : Int).toNat default).1), .str ((x.getD (j : Int).toNat default).2)] ((x.drop (j + 1)).flatMap a1O)) rfl (a9f hj) ?_
  iterate 8 refine z ?_
  refine zC Tryz.call58 ?_ (hf := a5w (by omega))
  refine yO rfl rfl (a2v (i := j) hT rfl rfl rfl (a0a rfl) rfl (a0a rfl) rfl (by show _ < (x.length); omega)) rfl ?_
  refine z ?_
  refine a3g (js := []) (cs := mid ((mkL a3V a1H (x.take j) k).flatMap a1O) [.str (a3H (k + (wSum a1H (x.take j) : Int))), .str ((x.getD (j : Int).toNat default).2)] ((x.drop (j + 1)).flatMap a1O)) hT rfl rfl rfl rfl (a0a rfl) (a0a rfl) rfl rfl rfl rfl (a0t (a0W rfl) a1m rfl) (by decide) (by decide) rfl (a5y (off := (j * 2 + 0)) (n := 1) (j := 0) (a2M (sz := 2) (fun _ => rfl) (Nat.le_of_lt hj)) (by omega) (Nat.le_of_ble_eq_true rfl)) (a4I (off := (j * 2 + 0)) (j := 0) (a2M (sz := 2) (fun _ => rfl) (Nat.le_of_lt hj)) (by omega) rfl (Nat.le_of_ble_eq_true rfl)) ?_
  simp only [a0l, a0j, SV.kill, CV.kill, kk, Nat.reduceBEq]
  iterate 10 refine z ?_
  refine zC Tryz.call58 ?_ (hf := a5w (by omega))
  refine yO rfl rfl (a2v (i := j) hT rfl rfl rfl (a0a rfl) rfl (a0a rfl) rfl (by show _ < (x.length); omega)) rfl ?_
  refine z ?_
  refine a3g (js := []) (cs := mid ((mkL a3V a1H (x.take j) k).flatMap a1O) [.str (a3H (k + (wSum a1H (x.take j) : Int))), .str (a3H ((k + (wSum a1H (x.take j) : Int)) + (1)))] ((x.drop (j + 1)).flatMap a1O)) hT rfl rfl rfl rfl (a0a rfl) (a0a rfl) rfl rfl rfl rfl (a0t (a0W rfl) a1m rfl) (by decide) (by decide) rfl (a5y (off := (j * 2 + 1)) (n := 1) (j := 1) (a2M (sz := 2) (fun _ => rfl) (Nat.le_of_lt hj)) (by omega) (Nat.le_of_ble_eq_true rfl)) (a4I (off := (j * 2 + 1)) (j := 1) (a2M (sz := 2) (fun _ => rfl) (Nat.le_of_lt hj)) (by omega) rfl (Nat.le_of_ble_eq_true rfl)) ?_
  simp only [a0l, a0j, SV.kill, CV.kill, kk, Nat.reduceBEq]
  refine z ?_
  refine a0k ?_
  iterate 3 refine z ?_
  refine a1t ?_
  iterate 2 refine z ?_
  refine a0k ?_
  iterate 4 refine z ?_
  refine ⟨j + 1, ?_, ?_, a0e ⟨rfl, (a2O (by omega)), rfl, rfl, trivial⟩ trivial ⟨(congrArg (fun cs => some (some (KC.mk true 97 2 x.length cs))) (a8Y (by omega) (by rfl))), trivial⟩ rfl⟩
  ·omega
  ·omega
 ·have d1 := of_decide_eq_false c1
  iterate 9 refine z ?_
  refine a0h (σ' := ⟨[(4, .one (.dv [] (.int .i64 (k + (wSum a1H (x.take j) : Int)))))], [], [(0, some (a0b true (a0B (mkL a3V a1H x k))))]⟩) (a0e ⟨rfl, trivial⟩ trivial ⟨(b0l (by omega)), trivial⟩ rfl) ?_
  refine z ?_
  refine a1p (a0i rfl) ⟨eqI ?_, b0k rfl⟩
  have hq := a4w a1H x j (by omega); omega
theorem c2x {x y : List (a2V)} {k : Int} (hy : y = mkL a3V a1H x k) (h0 : 0 ≤ k) (h1 : k + (wSum a1H x : Int) ≤ 4611686018427387904) : PFn Tryz.prog 32 [.one (.dv [] (a0B (y))), .one (.dv [] (.int .i64 (k)))] (.one (.dv [] (.int .i64 (k + (wSum a1H x : Int))))) := by
 refine ⟨a0v Tryz.func32 rfl Tryz.ntmps32 Tryz.results32 rfl (fun C => ?_)⟩
 refine a0E (x := .tmp 0) (a0a rfl) fun f0 => ?_
 refine a0E (x := .tmp 1) (a0a rfl) fun f1 => ?_
 iterate 8 refine z ?_
 refine a0X (ι := Nat) (fun zz => ⟨[(0, .one (.dv [] (a0B (y)))), (1, .one (.dv [] (.int .i64 (k + (wSum a1H (x.take zz) : Int))))), (5, .one (.dv [] (.int .i64 ((zz : Int)))))], [], []⟩) (fun zz => zz ≤ x.length) (fun zz => x.length - zz) (0) ?_ (a0e ⟨rfl, (a2O (by simp [wSum])), rfl, trivial⟩ trivial trivial rfl) (fun zz hx => ?_)
 ·exact Nat.zero_le _
 obtain ⟨j, rfl⟩ : ∃ v, v = zz := ⟨_, rfl⟩
 replace hx : j ≤ x.length := hx
 have hw := fun h => a2T a1H x j h
 have hyl : y.length = x.length := by rw [hy, a6M]
 show Ok _ _ _ _ _ (⟨[(0, .one (.dv [] (a0B (y)))), (1, .one (.dv [] (.int .i64 (k + (wSum a1H (x.take j) : Int))))), (5, .one (.dv [] (.int .i64 ((j : Int)))))], [], []⟩ : St)
 iterate 7 refine z ?_
 refine yQ rfl (fun c1 => ?_) fun c1 => ?_
 ·have d1 := of_decide_eq_true c1
  have hj : j < x.length := by omega
  obtain ⟨hw1, hw2⟩ := hw hj
  have hc : a1H (x.getD (j : Int).toNat default) = 2 := rfl
  have he : y.getD (j : Int).toNat default = a3V (x.getD (j : Int).toNat default) (k + (wSum a1H (x.take j) : Int)) := by rw [hy]; exact b1L hj
  iterate 4 refine z ?_
  refine a0q ?_
  refine a0q ?_
  refine a1M (oB := []) (oK := []) (by kernel_rfl) rfl rfl ?_
  refine zD 0 ?_
  refine zD 1 ?_
  refine zD 2 ?_
  refine zD 3 ?_
  refine zD 4 ?_
  refine zD 5 ?_
  refine a3D 6 rfl (by kernel_rfl) rfl rfl rfl Tryz.call58 (a5w (by omega)) (a0g (a0a rfl) (a0D a0c) a0m) rfl rfl rfl rfl ?_
  refine zD 7 ?_
  refine a1J (by kernel_rfl) ?_
  refine z ?_
  refine yQ rfl (fun c2 => ?_) fun c2 => ?_
  ·iterate 11 refine z ?_
   exfalso; rw [he] at c2; simp [a3V, sEq] at c2
  ·iterate 7 refine z ?_
   refine a0q ?_
   refine a0q ?_
   refine a1M (oB := []) (oK := []) (by kernel_rfl) rfl rfl ?_
   refine zD 0 ?_
   refine zD 1 ?_
   refine zD 2 ?_
   refine zD 3 ?_
   refine zD 4 ?_
   refine zD 5 ?_
   refine a3D 6 rfl (by kernel_rfl) rfl rfl rfl Tryz.call58 (a5w (by omega)) (a0g (a0a rfl) (a0D a0c) a0m) rfl rfl rfl rfl ?_
   refine zD 7 ?_
   refine a1J (by kernel_rfl) ?_
   refine z ?_
   refine yQ rfl (fun c3 => ?_) fun c3 => ?_
   ·iterate 11 refine z ?_
    exfalso; rw [he] at c3; simp [a3V, sEq] at c3
   ·iterate 2 refine z ?_
    refine a0k ?_
    iterate 3 refine z ?_
    refine a1t ?_
    iterate 2 refine z ?_
    refine a0k ?_
    iterate 4 refine z ?_
    refine ⟨j + 1, ?_, ?_, a0e ⟨rfl, (a2O (by omega)), rfl, trivial⟩ trivial trivial rfl⟩
    ·omega
    ·omega
 ·have d1 := of_decide_eq_false c1
  iterate 11 refine z ?_
  have hq := a4w a1H x j (by omega); omega
theorem b6n {x : DbT} {k : Int} (h0 : 0 ≤ k) (h1 : ((k) + (wSum a1q (x.2.2.1) : Int)) + (wSum a1H (x.2.2.2) : Int) ≤ 4611686018427387904) : WFn Tryz.prog 11 [.agg [(.dv [] (.str (x.1))), (.dv [] (.int .i64 (x.2.1))), (.key 0), (.key 1)], .one (.dv [] (.int .i64 (k)))] (.one (.dv [] (.int .i64 (((k) + (wSum a1q (x.2.2.1) : Int)) + (wSum a1H (x.2.2.2) : Int))))) [(0, a0b true (.sl 67 3 ((x.2.2.1).length) ((x.2.2.1).flatMap a1n))), (1, a0b true (.sl 97 2 ((x.2.2.2).length) ((x.2.2.2).flatMap a1O)))] [(0, a0b true (a0z (mkL a3P a1q (x.2.2.1) (k)))), (1, a0b true (a0B (mkL a3V a1H (x.2.2.2) ((k) + (wSum a1q (x.2.2.1) : Int)))))] := by
 refine ⟨a0v Tryz.func11 rfl Tryz.ntmps11 Tryz.results11 rfl (fun C => ?_)⟩
 refine yF 0 0 rfl rfl fun f0_0 => ?_
 refine yF 0 1 rfl rfl fun f0_1 => ?_
 refine a0E (x := .tmp 1) (a0a rfl) fun f1 => ?_
 iterate 8 refine z ?_
 refine a8w [(0, 0, ⟨true, _, _, _, _⟩, ⟨true, _, _, _, _⟩)] rfl rfl rfl Tryz.call29 (c6N (x := x.2.2.1) (by omega) (by omega)) ⟨rfl, trivial⟩ rfl (a3X (a0a rfl) (a4D (a4M rfl)) (a3X (a0a rfl) (a4D (a4l rfl)) a6s)) rfl rfl ?_
 simp only [a0l, a0j, SV.kill, CV.kill, kk, Nat.reduceBEq]
 iterate 6 refine z ?_
 refine a8w [(0, 1, ⟨true, _, _, _, _⟩, ⟨true, _, _, _, _⟩)] rfl rfl rfl Tryz.call30 (c5y (x := x.2.2.2) (by omega) (by omega)) ⟨rfl, trivial⟩ rfl (a3X (a0a rfl) (a4D (a4M rfl)) (a3X (a0a rfl) (a4D (a4l rfl)) a6s)) rfl rfl ?_
 simp only [a0l, a0j, SV.kill, CV.kill, kk, Nat.reduceBEq]
 iterate 6 refine z ?_
 refine a0h (σ' := ⟨[(4, .one (.dv [] (.int .i64 (((k) + (wSum a1q (x.2.2.1) : Int)) + (wSum a1H (x.2.2.2) : Int)))))], [], [(0, some (a0b true (a0z (mkL a3P a1q (x.2.2.1) (k))))), (1, some (a0b true (a0B (mkL a3V a1H (x.2.2.2) ((k) + (wSum a1q (x.2.2.1) : Int))))))]⟩) (a0e ⟨rfl, trivial⟩ trivial ⟨rfl, rfl, trivial⟩ rfl) ?_
 refine z ?_
 refine a1p (a0i rfl) ⟨eqI ?_, c2V rfl rfl⟩
 rfl
theorem b9n {x y : DbT} {k : Int} (hy : y = c1R x k) (h0 : 0 ≤ k) (h1 : ((k) + (wSum a1q (x.2.2.1) : Int)) + (wSum a1H (x.2.2.2) : Int) ≤ 4611686018427387904) : PFn Tryz.prog 12 [.agg [(.dv [] (.str (y.1))), (.dv [] (.int .i64 (y.2.1))), (.dv [] (a0z (y.2.2.1))), (.dv [] (a0B (y.2.2.2)))], .one (.dv [] (.int .i64 (k)))] (.one (.dv [] (.int .i64 (((k) + (wSum a1q (x.2.2.1) : Int)) + (wSum a1H (x.2.2.2) : Int))))) := by
 refine ⟨a0v Tryz.func12 rfl Tryz.ntmps12 Tryz.results12 rfl (fun C => ?_)⟩
 refine yF 0 0 rfl rfl fun f0_0 => ?_
 refine yF 0 1 rfl rfl fun f0_1 => ?_
 refine yF 0 2 rfl rfl fun f0_2 => ?_
 refine yF 0 3 rfl rfl fun f0_3 => ?_
 refine a0E (x := .tmp 1) (a0a rfl) fun f1 => ?_
 iterate 8 refine z ?_
 refine zC Tryz.call31 ?_ (hf := c1Q (x := x.2.2.1) (by rw [hy]; rfl) (by omega) (by omega))
 iterate 7 refine z ?_
 refine yQ rfl (fun c1 => ?_) fun c1 => ?_
 ·have d1 := of_decide_eq_true c1
  iterate 6 refine z ?_
  exfalso; omega
 ·have d1 := of_decide_eq_false c1
  iterate 6 refine z ?_
  refine zC Tryz.call32 ?_ (hf := c2x (x := x.2.2.2) (by rw [hy]; rfl) (by omega) (by omega))
  iterate 7 refine z ?_
  refine yQ rfl (fun c2 => ?_) fun c2 => ?_
  ·have d2 := of_decide_eq_true c2
   iterate 6 refine z ?_
   exfalso; omega
  ·have d2 := of_decide_eq_false c2
   iterate 8 refine z ?_
   rfl
theorem c7F {x : a5n} {k : Int} (h0 : 0 ≤ k) (h1 : (((k) + (wSum a1q (x.1.2.2.1) : Int)) + (wSum a1H (x.1.2.2.2) : Int)) + (wSum a2X (x.2.1) : Int) ≤ 4611686018427387904) : WFn Tryz.prog 10 [.agg [(.dv [] (.str (x.1.1))), (.dv [] (.int .i64 (x.1.2.1))), (.key 0), (.key 1), (.key 2), (.dv [] (.int .i64 (x.2.2)))], .one (.dv [] (.int .i64 (k)))] (.one (.dv [] (.int .i64 ((((k) + (wSum a1q (x.1.2.2.1) : Int)) + (wSum a1H (x.1.2.2.2) : Int)) + (wSum a2X (x.2.1) : Int))))) [(0, a0b true (.sl 67 3 ((x.1.2.2.1).length) ((x.1.2.2.1).flatMap a1n))), (1, a0b true (.sl 97 2 ((x.1.2.2.2).length) ((x.1.2.2.2).flatMap a1O))), (2, a0b true (.sl 5 1 ((x.2.1).length) ((x.2.1).flatMap a0V)))] [(0, a0b true (a0z (mkL a3P a1q (x.1.2.2.1) (k)))), (1, a0b true (a0B (mkL a3V a1H (x.1.2.2.2) ((k) + (wSum a1q (x.1.2.2.1) : Int))))), (2, a0b true (a0x (mkL a6t a2X (x.2.1) (((k) + (wSum a1q (x.1.2.2.1) : Int)) + (wSum a1H (x.1.2.2.2) : Int)))))] := by
 refine ⟨a0v Tryz.func10 rfl Tryz.ntmps10 Tryz.results10 rfl (fun C => ?_)⟩
 refine yF 0 0 rfl rfl fun f0_0 => ?_
 refine yF 0 1 rfl rfl fun f0_1 => ?_
 refine yF 0 5 rfl rfl fun f0_5 => ?_
 refine a0E (x := .tmp 1) (a0a rfl) fun f1 => ?_
 iterate 8 refine z ?_
 refine a8w [(0, 0, ⟨true, _, _, _, _⟩, ⟨true, _, _, _, _⟩), (1, 1, ⟨true, _, _, _, _⟩, ⟨true, _, _, _, _⟩)] rfl rfl rfl Tryz.call11 (b6n (x := x.1) (by omega) (by omega)) ⟨rfl, rfl, trivial⟩ rfl (a3X (a0a rfl) (b2K (a4s (a4l rfl) (a4s (a4l rfl) (a4s (a4M rfl) (a4s (a4M rfl) b3N))))) (a3X (a0a rfl) (a4D (a4l rfl)) a6s)) rfl rfl ?_
 simp only [a0l, a0j, SV.kill, CV.kill, kk, Nat.reduceBEq]
 iterate 6 refine z ?_
 refine a8w [(0, 2, ⟨true, _, _, _, _⟩, ⟨true, _, _, _, _⟩)] rfl rfl rfl Tryz.call28 (c2U (x := x.2.1) (by omega) (by omega)) ⟨rfl, trivial⟩ rfl (a3X (a0a rfl) (a4D (a4M rfl)) (a3X (a0a rfl) (a4D (a4l rfl)) a6s)) rfl rfl ?_
 simp only [a0l, a0j, SV.kill, CV.kill, kk, Nat.reduceBEq]
 iterate 6 refine z ?_
 refine a0h (σ' := ⟨[(4, .one (.dv [] (.int .i64 ((((k) + (wSum a1q (x.1.2.2.1) : Int)) + (wSum a1H (x.1.2.2.2) : Int)) + (wSum a2X (x.2.1) : Int)))))], [], [(0, some (a0b true (a0z (mkL a3P a1q (x.1.2.2.1) (k))))), (1, some (a0b true (a0B (mkL a3V a1H (x.1.2.2.2) ((k) + (wSum a1q (x.1.2.2.1) : Int)))))), (2, some (a0b true (a0x (mkL a6t a2X (x.2.1) (((k) + (wSum a1q (x.1.2.2.1) : Int)) + (wSum a1H (x.1.2.2.2) : Int))))))]⟩) (a0e ⟨rfl, trivial⟩ trivial ⟨rfl, rfl, rfl, trivial⟩ rfl) ?_
 refine z ?_
 refine a1p (a0i rfl) ⟨eqI ?_, c4r rfl rfl rfl⟩
 rfl
@[reducible] def b3J (xs : List (List UInt8)) : DV := a2H 0 1 (fun x => [a0x x]) xs
def a2l (l : List OpT) : Bool := l.all a1E && decide ((l.length : Int) ≤ 6)
def a9v (b y : List UInt8) : List UInt8 := a2C b (y.length : Int) ++ y
def a4B (o : OpT) : List (List UInt8) := [o.2.1.data.toList, a1o o.2.2.1, a2b o.2.2.2.1, o.2.2.2.2.data.toList]
def a2N (b : List UInt8) (o : OpT) : Nat → List UInt8
 | 0 => a2C b o.1
 | j + 1 => a9v (a2N b o j) ((a4B o).getD (j : Int).toNat default)
def a1B (l : List OpT) : Nat → List UInt8
 | 0 => a2C [] (l.length : Int)
 | k + 1 => a2N (a1B l k) (l.getD (k : Int).toNat default) 4
def a1X (l : List OpT) : List UInt8 := if a2l l then a1B l l.length else []
theorem a7W {l : List OpT} (h : a2l l = false) : a1X l = [] := by rw [a1X, h]; rfl
theorem a6q {l : List OpT} {k : Nat} (h : a2l l = true) (hk : k = l.length) : a1X l = a1B l k := by rw [a1X, if_pos h, hk]
theorem b8q {l : List OpT} {k : Nat} (hk : k < l.length) (h : a1E (l.getD (k : Int).toNat default) = false) : a2l l = false := by
 unfold a2l
 have : l.all a1E = false := by
  rw [List.all_eq_false]
  refine ⟨l[k], List.getElem_mem hk, ?_⟩
  rw [a4e hk] at h
  simpa using h
 rw [this]; rfl
theorem b3x {l : List OpT} {k : Nat} (h : (l.take k).all a1E = true) (hk : l.length ≤ k) : a2l l = decide ((l.length : Int) ≤ 6) := by
 rw [List.take_of_length_le hk] at h
 unfold a2l
 rw [h, Bool.true_and]
theorem b9D {l : List OpT} {k : Nat} (h : (l.take k).all a1E = true) (hk : k < l.length) (h2 : a1E (l.getD (k : Int).toNat default) = true) : (l.take (k + 1)).all a1E = true := by
 rw [List.take_succ_eq_append_getElem hk, List.all_append, h]
 rw [a4e hk] at h2
 simpa using h2
theorem b1r {o : OpT} (h : a1E o = true) : o.2.1.data.toList.length ≤ 8 ∧ o.2.2.2.2.data.toList.length ≤ 8 := by
 simp only [a1E, Bool.and_eq_true, Bool.or_eq_true] at h
 have h1 := a6X h.1.1.1.2
 refine ⟨h1.2, ?_⟩
 rcases h.2 with h2 | h2
 ·exact (a6X h2.2).2
 ·have h3 : o.2.2.2.2.data.toList = [] := by
   have := h2.2
   simpa [sEq, ByteArray.toList_eq] using this
  rw [h3]; simp
theorem b8W {l : List OpT} {k : Nat} (h : a2l l = true) (hk : k < l.length) : a1E (l.getD (k : Int).toNat default) = true := by
 simp only [a2l, Bool.and_eq_true, List.all_eq_true] at h
 rw [a4e hk]
 exact h.1 _ (List.getElem_mem hk)
theorem b3Z {l : List OpT} (h : a2l l = true) : l.length ≤ 6 := by
 simp only [a2l, Bool.and_eq_true, decide_eq_true_eq] at h; omega
theorem c5M (b y : List UInt8) : (a9v b y).length ≤ b.length + 6 + y.length := by
 have := a5E b (y.length : Int)
 rw [a9v, List.length_append]; omega
theorem b5e {o : OpT} (h : a1E o = true) (j : Nat) : ((a4B o).getD (j : Int).toNat default).length ≤ 126 := by
 have h1 := b1r h
 have h2 := b1t o.2.2.1
 have h3 := b1p o.2.2.2.1
 match j with
 | 0 => show o.2.1.data.toList.length ≤ 126; omega
 | 1 => show (a1o o.2.2.1).length ≤ 126; omega
 | 2 => exact h3
 | 3 => show o.2.2.2.2.data.toList.length ≤ 126; omega
 | n + 4 => rw [Int.toNat_natCast]; simp [a4B]; exact Nat.zero_le 126
theorem a7s {b : List UInt8} {o : OpT} (h : a1E o = true) : ∀ j, (a2N b o j).length ≤ b.length + 6 + 132 * j
 | 0 => by have := a5E b o.1; simpa [a2N] using this
 | j + 1 => by
  have ih := a7s (b := b) h j
  have h1 := c5M (a2N b o j) ((a4B o).getD (j : Int).toNat default)
  have h2 := b5e h j
  rw [a2N]; omega
theorem b4f {l : List OpT} : ∀ k, k ≤ l.length → (l.take k).all a1E = true → (a1B l k).length ≤ 6 + 534 * k
 | 0, _, _ => by have := a5E [] (l.length : Int); simpa [a1B] using this
 | k + 1, hk, h => by
  have h0 : (l.take k).all a1E = true ∧ a1E (l.getD (k : Int).toNat default) = true := by
   rw [List.take_succ_eq_append_getElem (by omega), List.all_append, Bool.and_eq_true] at h
   refine ⟨h.1, ?_⟩
   rw [a4e (by omega)]
   simpa using h.2
  have ih := b4f k (by omega) h0.1
  have h1 := a7s (b := a1B l k) h0.2 4
  have e : a1B l (k + 1) = a2N (a1B l k) (l.getD (k : Int).toNat default) 4 := rfl
  rw [e]
  refine Nat.le_trans h1 ?_
  clear h1 e
  omega
theorem c7s {l : List OpT} {k : Nat} (h : a2l l = true) (hk : k ≤ l.length) : (a1B l k).length ≤ 6 + 534 * k := by
 refine b4f k hk ?_
 simp only [a2l, Bool.and_eq_true] at h
 rw [List.all_eq_true] at h ⊢
 exact fun x hx => h.1 x (List.mem_of_mem_take hx)
theorem c2P {l : List OpT}  : PFn Tryz.prog 88 [.one (.dv [] (a1T (l)))] (.one (.dv [] (.bool (a2l l)))) := by
 refine ⟨a0v Tryz.func88 rfl Tryz.ntmps88 Tryz.results88 rfl (fun C => ?_)⟩
 refine a0E (x := .tmp 0) (a0a rfl) fun f0 => ?_
 iterate 10 refine z ?_
 refine a0X (ι := Nat) (fun zz => ⟨[(0, .one (.dv [] (a1T (l)))), (5, .one (.dv [] (a1T (l)))), (6, .one (.dv [] (.int .i64 ((((l)).length : Int))))), (7, .one (.dv [] (.int .i64 ((zz : Int)))))], [], []⟩) (fun zz => zz ≤ l.length ∧ (l.take zz).all a1E = true) (fun zz => l.length - zz) (0) ?_ (a0e ⟨rfl, rfl, rfl, rfl, trivial⟩ trivial trivial rfl) (fun zz hx => ?_)
 ·exact ⟨Nat.zero_le _, rfl⟩
 obtain ⟨k, rfl⟩ : ∃ v, v = zz := ⟨_, rfl⟩
 replace hx : k ≤ l.length ∧ (l.take k).all a1E = true := hx
 obtain ⟨hk, hall⟩ := hx
 show Ok _ _ _ _ _ (⟨[(0, .one (.dv [] (a1T (l)))), (5, .one (.dv [] (a1T (l)))), (6, .one (.dv [] (.int .i64 ((((l)).length : Int))))), (7, .one (.dv [] (.int .i64 ((k : Int)))))], [], []⟩ : St)
 iterate 3 refine z ?_
 refine a0q ?_
 refine yQ rfl (fun c1 => ?_) fun c1 => ?_
 ·have d1 := of_decide_eq_true c1
  iterate 12 refine z ?_
  refine zC Tryz.call97 ?_ (hf := b4w (x := (((l)).getD ((k : Int)).toNat default)) )
  iterate 2 refine z ?_
  refine yQ rfl (fun c2 => ?_) fun c2 => ?_
  ·iterate 10 refine z ?_
   exact (b8q (k := k) (by omega) (by simpa using c2)).symm
  ·iterate 3 refine z ?_
   refine a0k ?_
   iterate 3 refine z ?_
   refine ⟨k + 1, ?_, ?_, a0e ⟨rfl, rfl, rfl, rfl, trivial⟩ trivial trivial rfl⟩
   ·exact ⟨by omega, b9D hall (by omega) (by simpa using c2)⟩
   ·omega
 ·have d1 := of_decide_eq_false c1
  iterate 13 refine z ?_
  exact (b3x hall (by omega)).symm
theorem c2A {l : List OpT}  : KFn Tryz.prog 53 [.one (.dv [] (a1T (l)))] (.one (.key 900500)) [(900500, some (a0b false (a0x (a1X l))))] := by
 refine ⟨a0v Tryz.func53 rfl Tryz.ntmps53 Tryz.results53 rfl (fun C => ?_)⟩
 refine a0E (x := .tmp 0) (a0a rfl) fun f0 => ?_
 iterate 6 refine z ?_
 refine zC Tryz.call88 ?_ (hf := c2P (l := l) )
 iterate 2 refine z ?_
 refine yQ rfl (fun c1 => ?_) fun c1 => ?_
 ·have hk0 : a2l l = false := by simpa using c1
  refine z ?_
  refine a2f (k := 900500) hT rfl rfl rfl rfl rfl rfl rfl rfl ?_
  iterate 2 refine z ?_
  refine a0h (σ' := ⟨[(2, .one (.key 900500))], [], [(900500, some (a0b false (a0x (a1X l))))]⟩) (a0e ⟨rfl, trivial⟩ trivial ⟨(by first | exact congrArg (fun l : List UInt8 => some (some (KC.mk false 5 1 l.length (l.flatMap a0V)))) (show ([] : List UInt8) = a1X l from (a7W hk0).symm) | exact congrArg (fun l : List UInt8 => some (some (KC.mk false 5 1 l.length (l.flatMap a0V)))) (a6q hk1 (by omega)).symm), trivial⟩ rfl) ?_
  iterate 2 refine z ?_
  refine a1p (a0i rfl) ?_
  exact ⟨rfl, rfl⟩
 ·have hk1 : a2l l = true := by simpa using c1
  have hll := b3Z hk1
  iterate 5 refine z ?_
  refine a2J 900470 rfl rfl rfl Tryz.call89 (a9p (x := []) (n := (l.length : Int)) (by simp)) (a0g a0K (a0D (a5D rfl rfl)) (a0g (a0a rfl) (a0D a0c) a0m)) rfl rfl rfl ?_
  iterate 9 refine z ?_
  refine a0X (ι := Nat) (fun zz => ⟨[(2, .one .nil), (3, .one (.key 900500)), (15, .one (.dv [] (a1T (l)))), (16, .one (.dv [] (.int .i64 ((((l)).length : Int))))), (17, .one (.dv [] (.int .i64 ((zz : Int)))))], [], [(900500, some (a0b false (.sl 5 1 ((a1B l zz).length) ((a1B l zz).flatMap a0V))))]⟩) (fun zz => zz ≤ l.length) (fun zz => l.length - zz) (0) ?_ (a0e ⟨rfl, rfl, rfl, rfl, rfl, trivial⟩ trivial ⟨rfl, trivial⟩ rfl) (fun zz hx => ?_)
  ·exact Nat.zero_le _
  obtain ⟨k, rfl⟩ : ∃ v, v = zz := ⟨_, rfl⟩
  replace hx : k ≤ l.length := hx
  have hk := hx
  show Ok _ _ _ _ _ (⟨[(2, .one .nil), (3, .one (.key 900500)), (15, .one (.dv [] (a1T (l)))), (16, .one (.dv [] (.int .i64 ((((l)).length : Int))))), (17, .one (.dv [] (.int .i64 ((k : Int)))))], [], [(900500, some (a0b false (.sl 5 1 ((a1B l k).length) ((a1B l k).flatMap a0V))))]⟩ : St)
  iterate 3 refine z ?_
  refine a0q ?_
  refine yQ rfl (fun c2 => ?_) fun c2 => ?_
  ·have d2 := of_decide_eq_true c2
   have hkl : k < l.length := by omega
   have hop := b8W hk1 hkl
   have hrg := b1r hop
   have hek := b1t (l.getD (k : Int).toNat default).2.2.1
   have her := b1p (l.getD (k : Int).toNat default).2.2.2.1
   have hen := c7s hk1 hk
   iterate 14 refine z ?_
   refine a2J 900471 rfl rfl rfl Tryz.call89 (a9p (x := (a1B l k)) (n := (l.getD (k : Int).toNat default).1) (by omega)) (a0g (a0a rfl) (a0D (a0Q rfl rfl)) (a0g (a0a rfl) (a0D a0c) a0m)) rfl rfl rfl ?_
   iterate 2 refine z ?_
   refine a5O (σ' := ⟨[(2, .one .nil), (3, .one (.key 900501)), (5, .box 5 0), (15, .one (.dv [] (a1T (l)))), (16, .one (.dv [] (.int .i64 ((((l)).length : Int))))), (17, .one (.dv [] (.int .i64 ((k : Int))))), (37, .one (.key 37)), (38, .one (.dv [] (.int .i64 (((4) : Int))))), (39, .one (.dv [] (.int .i64 (0))))], [(5, 80, [(.dv [] (.int .i64 ((((l)).getD ((k : Int)).toNat default).1))), (.dv [] (.str ((((l)).getD ((k : Int)).toNat default).2.1))), (.dv [] (.int .i64 ((((l)).getD ((k : Int)).toNat default).2.2.1.1))), (.dv [] (.int .i64 ((((l)).getD ((k : Int)).toNat default).2.2.1.2.1))), (.dv [] (.str ((((l)).getD ((k : Int)).toNat default).2.2.1.2.2))), (.dv [] (a0w ((((l)).getD ((k : Int)).toNat default).2.2.2.1))), (.dv [] (.str ((((l)).getD ((k : Int)).toNat default).2.2.2.2)))])], [(37, some (a0b false (.sl 26 1 (4) ([.sl 1000005 1 (((((l)).getD ((k : Int)).toNat default).2.1).data.toList.length) (((((l)).getD ((k : Int)).toNat default).2.1).data.toList.flatMap a0V), a0x (a1o ((((l)).getD ((k : Int)).toNat default).2.2.1)), a0x (a2b ((((l)).getD ((k : Int)).toNat default).2.2.2.1)), .sl 1000005 1 (((((l)).getD ((k : Int)).toNat default).2.2.2.2).data.toList.length) (((((l)).getD ((k : Int)).toNat default).2.2.2.2).data.toList.flatMap a0V)])))), (900500, some (a0b false (.sl 5 1 ((a1B l k).length) ((a1B l k).flatMap a0V)))), (900501, some (a0b false (a0x (a2N (a1B l k) (l.getD (k : Int).toNat default) 0))))]⟩) ?_ ?_
   ·refine a1M (oB := [5]) (oK := [900500, 900501]) (by kernel_rfl) rfl rfl ?_
    refine zD 0 ?_
    refine zD 1 ?_
    refine zD 3 ?_
    refine zD 4 ?_
    refine zD 6 ?_
    refine zD 7 ?_
    refine zD 9 ?_
    refine zD 10 ?_
    refine zD 14 ?_
    refine a5z 2 [5, 11] (by kernel_rfl) ⟨?_, ?_, ?_, trivial⟩
    ·refine a4u (k := 27) 2 hT rfl rfl rfl rfl rfl rfl rfl rfl (a0a rfl) rfl rfl rfl ?_
     refine a5z 5 [11] (by kernel_rfl) ⟨?_, ?_, trivial⟩
     ·refine a5W 900498 5 rfl rfl rfl rfl Tryz.call85 (a7A (k := (((l)).getD ((k : Int)).toNat default).2.2.1) ) (a0g (a0a rfl) (a0s (a0d a0c (a0d a0c (a0d a0c a0r)))) a0m) rfl rfl rfl rfl rfl ?_
      refine a5z 8 [11] (by kernel_rfl) ⟨?_, ?_, trivial⟩
      ·refine a5W 900011 8 rfl rfl rfl rfl Tryz.call86 (a4O (r := (((l)).getD ((k : Int)).toNat default).2.2.2.1) ) (a0g (a0a rfl) (a0s (a0d a0c a0r)) a0m) rfl rfl rfl rfl rfl ?_
       refine a6a (k := 36) 11 hT rfl (by kernel_rfl) rfl rfl rfl rfl rfl rfl rfl (a0a rfl) rfl rfl rfl ?_
       refine a4J (k := 37) (js := [27, 900510, 900511, 36]) 12 hT rfl (by kernel_rfl) rfl rfl rfl rfl rfl rfl rfl rfl rfl rfl rfl (a1y (a0a rfl) rfl rfl rfl (a1y (a0a rfl) rfl rfl rfl (a1y (a0a rfl) rfl rfl rfl (a1y (a0a rfl) rfl rfl rfl a4f)))) (a0t (a1i rfl) (a0t (a1i rfl) (a0t (a1i rfl) (a0t (a1i rfl) a1m rfl) rfl) rfl) rfl) (by decide) (by decide) rfl rfl rfl rfl ?_
       simp only [a0l, a0j, SV.kill, CV.kill, kk, Nat.reduceBEq]
       refine a2F 13 rfl (by kernel_rfl) rfl rfl (a2S (n := (4)) hT rfl rfl (a0a rfl) rfl rfl) rfl rfl rfl rfl ?_
       refine a1J (by kernel_rfl) ?_
       exact a2p (a0e ⟨rfl, rfl, rfl, rfl, rfl, rfl, rfl, rfl, rfl, trivial⟩ ⟨rfl, trivial⟩ ⟨rfl, rfl, rfl, trivial⟩ rfl)
      ·refine a4u (k := 36) 11 hT rfl rfl rfl rfl rfl rfl rfl rfl (a0a rfl) rfl rfl rfl ?_
       refine a2j 900011 8 rfl (by kernel_rfl) rfl rfl rfl Tryz.call86 (a4O (r := (((l)).getD ((k : Int)).toNat default).2.2.2.1) ) (a0g (a0a rfl) (a0s (a0d a0c a0r)) a0m) rfl rfl rfl rfl rfl ?_
       refine a4J (k := 37) (js := [27, 900510, 900511, 36]) 12 hT rfl (by kernel_rfl) rfl rfl rfl rfl rfl rfl rfl rfl rfl rfl rfl (a1y (a0a rfl) rfl rfl rfl (a1y (a0a rfl) rfl rfl rfl (a1y (a0a rfl) rfl rfl rfl (a1y (a0a rfl) rfl rfl rfl a4f)))) (a0t (a1i rfl) (a0t (a1i rfl) (a0t (a1i rfl) (a0t (a1i rfl) a1m rfl) rfl) rfl) rfl) (by decide) (by decide) rfl rfl rfl rfl ?_
       simp only [a0l, a0j, SV.kill, CV.kill, kk, Nat.reduceBEq]
       refine a2F 13 rfl (by kernel_rfl) rfl rfl (a2S (n := (4)) hT rfl rfl (a0a rfl) rfl rfl) rfl rfl rfl rfl ?_
       refine a1J (by kernel_rfl) ?_
       exact a2p (a0e ⟨rfl, rfl, rfl, rfl, rfl, rfl, rfl, rfl, rfl, trivial⟩ ⟨rfl, trivial⟩ ⟨rfl, rfl, rfl, trivial⟩ rfl)
     ·refine a4u (k := 36) 11 hT rfl rfl rfl rfl rfl rfl rfl rfl (a0a rfl) rfl rfl rfl ?_
      refine a2j 900498 5 rfl (by kernel_rfl) rfl rfl rfl Tryz.call85 (a7A (k := (((l)).getD ((k : Int)).toNat default).2.2.1) ) (a0g (a0a rfl) (a0s (a0d a0c (a0d a0c (a0d a0c a0r)))) a0m) rfl rfl rfl rfl rfl ?_
      refine a2j 900011 8 rfl (by kernel_rfl) rfl rfl rfl Tryz.call86 (a4O (r := (((l)).getD ((k : Int)).toNat default).2.2.2.1) ) (a0g (a0a rfl) (a0s (a0d a0c a0r)) a0m) rfl rfl rfl rfl rfl ?_
      refine a4J (k := 37) (js := [27, 900510, 900511, 36]) 12 hT rfl (by kernel_rfl) rfl rfl rfl rfl rfl rfl rfl rfl rfl rfl rfl (a1y (a0a rfl) rfl rfl rfl (a1y (a0a rfl) rfl rfl rfl (a1y (a0a rfl) rfl rfl rfl (a1y (a0a rfl) rfl rfl rfl a4f)))) (a0t (a1i rfl) (a0t (a1i rfl) (a0t (a1i rfl) (a0t (a1i rfl) a1m rfl) rfl) rfl) rfl) (by decide) (by decide) rfl rfl rfl rfl ?_
      simp only [a0l, a0j, SV.kill, CV.kill, kk, Nat.reduceBEq]
      refine a2F 13 rfl (by kernel_rfl) rfl rfl (a2S (n := (4)) hT rfl rfl (a0a rfl) rfl rfl) rfl rfl rfl rfl ?_
      refine a1J (by kernel_rfl) ?_
      exact a2p (a0e ⟨rfl, rfl, rfl, rfl, rfl, rfl, rfl, rfl, rfl, trivial⟩ ⟨rfl, trivial⟩ ⟨rfl, rfl, rfl, trivial⟩ rfl)
    ·refine a5W 900498 5 rfl rfl rfl rfl Tryz.call85 (a7A (k := (((l)).getD ((k : Int)).toNat default).2.2.1) ) (a0g (a0a rfl) (a0s (a0d a0c (a0d a0c (a0d a0c a0r)))) a0m) rfl rfl rfl rfl rfl ?_
     refine a5z 2 [8, 11] (by kernel_rfl) ⟨?_, ?_, ?_, trivial⟩
     ·refine a4u (k := 27) 2 hT rfl rfl rfl rfl rfl rfl rfl rfl (a0a rfl) rfl rfl rfl ?_
      refine a5z 8 [11] (by kernel_rfl) ⟨?_, ?_, trivial⟩
      ·refine a5W 900011 8 rfl rfl rfl rfl Tryz.call86 (a4O (r := (((l)).getD ((k : Int)).toNat default).2.2.2.1) ) (a0g (a0a rfl) (a0s (a0d a0c a0r)) a0m) rfl rfl rfl rfl rfl ?_
       refine a6a (k := 36) 11 hT rfl (by kernel_rfl) rfl rfl rfl rfl rfl rfl rfl (a0a rfl) rfl rfl rfl ?_
       refine a4J (k := 37) (js := [27, 900510, 900511, 36]) 12 hT rfl (by kernel_rfl) rfl rfl rfl rfl rfl rfl rfl rfl rfl rfl rfl (a1y (a0a rfl) rfl rfl rfl (a1y (a0a rfl) rfl rfl rfl (a1y (a0a rfl) rfl rfl rfl (a1y (a0a rfl) rfl rfl rfl a4f)))) (a0t (a1i rfl) (a0t (a1i rfl) (a0t (a1i rfl) (a0t (a1i rfl) a1m rfl) rfl) rfl) rfl) (by decide) (by decide) rfl rfl rfl rfl ?_
       simp only [a0l, a0j, SV.kill, CV.kill, kk, Nat.reduceBEq]
       refine a2F 13 rfl (by kernel_rfl) rfl rfl (a2S (n := (4)) hT rfl rfl (a0a rfl) rfl rfl) rfl rfl rfl rfl ?_
       refine a1J (by kernel_rfl) ?_
       exact a2p (a0e ⟨rfl, rfl, rfl, rfl, rfl, rfl, rfl, rfl, rfl, trivial⟩ ⟨rfl, trivial⟩ ⟨rfl, rfl, rfl, trivial⟩ rfl)
      ·refine a4u (k := 36) 11 hT rfl rfl rfl rfl rfl rfl rfl rfl (a0a rfl) rfl rfl rfl ?_
       refine a2j 900011 8 rfl (by kernel_rfl) rfl rfl rfl Tryz.call86 (a4O (r := (((l)).getD ((k : Int)).toNat default).2.2.2.1) ) (a0g (a0a rfl) (a0s (a0d a0c a0r)) a0m) rfl rfl rfl rfl rfl ?_
       refine a4J (k := 37) (js := [27, 900510, 900511, 36]) 12 hT rfl (by kernel_rfl) rfl rfl rfl rfl rfl rfl rfl rfl rfl rfl rfl (a1y (a0a rfl) rfl rfl rfl (a1y (a0a rfl) rfl rfl rfl (a1y (a0a rfl) rfl rfl rfl (a1y (a0a rfl) rfl rfl rfl a4f)))) (a0t (a1i rfl) (a0t (a1i rfl) (a0t (a1i rfl) (a0t (a1i rfl) a1m rfl) rfl) rfl) rfl) (by decide) (by decide) rfl rfl rfl rfl ?_
       simp only [a0l, a0j, SV.kill, CV.kill, kk, Nat.reduceBEq]
       refine a2F 13 rfl (by kernel_rfl) rfl rfl (a2S (n := (4)) hT rfl rfl (a0a rfl) rfl rfl) rfl rfl rfl rfl ?_
       refine a1J (by kernel_rfl) ?_
       exact a2p (a0e ⟨rfl, rfl, rfl, rfl, rfl, rfl, rfl, rfl, rfl, trivial⟩ ⟨rfl, trivial⟩ ⟨rfl, rfl, rfl, trivial⟩ rfl)
     ·refine a5W 900011 8 rfl rfl rfl rfl Tryz.call86 (a4O (r := (((l)).getD ((k : Int)).toNat default).2.2.2.1) ) (a0g (a0a rfl) (a0s (a0d a0c a0r)) a0m) rfl rfl rfl rfl rfl ?_
      refine a5z 2 [11] (by kernel_rfl) ⟨?_, ?_, trivial⟩
      ·refine a4u (k := 27) 2 hT rfl rfl rfl rfl rfl rfl rfl rfl (a0a rfl) rfl rfl rfl ?_
       refine a6a (k := 36) 11 hT rfl (by kernel_rfl) rfl rfl rfl rfl rfl rfl rfl (a0a rfl) rfl rfl rfl ?_
       refine a4J (k := 37) (js := [27, 900510, 900511, 36]) 12 hT rfl (by kernel_rfl) rfl rfl rfl rfl rfl rfl rfl rfl rfl rfl rfl (a1y (a0a rfl) rfl rfl rfl (a1y (a0a rfl) rfl rfl rfl (a1y (a0a rfl) rfl rfl rfl (a1y (a0a rfl) rfl rfl rfl a4f)))) (a0t (a1i rfl) (a0t (a1i rfl) (a0t (a1i rfl) (a0t (a1i rfl) a1m rfl) rfl) rfl) rfl) (by decide) (by decide) rfl rfl rfl rfl ?_
       simp only [a0l, a0j, SV.kill, CV.kill, kk, Nat.reduceBEq]
       refine a2F 13 rfl (by kernel_rfl) rfl rfl (a2S (n := (4)) hT rfl rfl (a0a rfl) rfl rfl) rfl rfl rfl rfl ?_
       refine a1J (by kernel_rfl) ?_
       exact a2p (a0e ⟨rfl, rfl, rfl, rfl, rfl, rfl, rfl, rfl, rfl, trivial⟩ ⟨rfl, trivial⟩ ⟨rfl, rfl, rfl, trivial⟩ rfl)
      ·refine a4u (k := 36) 11 hT rfl rfl rfl rfl rfl rfl rfl rfl (a0a rfl) rfl rfl rfl ?_
       refine a6a (k := 27) 2 hT rfl (by kernel_rfl) rfl rfl rfl rfl rfl rfl rfl (a0a rfl) rfl rfl rfl ?_
       refine a4J (k := 37) (js := [27, 900510, 900511, 36]) 12 hT rfl (by kernel_rfl) rfl rfl rfl rfl rfl rfl rfl rfl rfl rfl rfl (a1y (a0a rfl) rfl rfl rfl (a1y (a0a rfl) rfl rfl rfl (a1y (a0a rfl) rfl rfl rfl (a1y (a0a rfl) rfl rfl rfl a4f)))) (a0t (a1i rfl) (a0t (a1i rfl) (a0t (a1i rfl) (a0t (a1i rfl) a1m rfl) rfl) rfl) rfl) (by decide) (by decide) rfl rfl rfl rfl ?_
       simp only [a0l, a0j, SV.kill, CV.kill, kk, Nat.reduceBEq]
       refine a2F 13 rfl (by kernel_rfl) rfl rfl (a2S (n := (4)) hT rfl rfl (a0a rfl) rfl rfl) rfl rfl rfl rfl ?_
       refine a1J (by kernel_rfl) ?_
       exact a2p (a0e ⟨rfl, rfl, rfl, rfl, rfl, rfl, rfl, rfl, rfl, trivial⟩ ⟨rfl, trivial⟩ ⟨rfl, rfl, rfl, trivial⟩ rfl)
     ·refine a4u (k := 36) 11 hT rfl rfl rfl rfl rfl rfl rfl rfl (a0a rfl) rfl rfl rfl ?_
      refine a5z 2 [8] (by kernel_rfl) ⟨?_, ?_, trivial⟩
      ·refine a4u (k := 27) 2 hT rfl rfl rfl rfl rfl rfl rfl rfl (a0a rfl) rfl rfl rfl ?_
       refine a2j 900011 8 rfl (by kernel_rfl) rfl rfl rfl Tryz.call86 (a4O (r := (((l)).getD ((k : Int)).toNat default).2.2.2.1) ) (a0g (a0a rfl) (a0s (a0d a0c a0r)) a0m) rfl rfl rfl rfl rfl ?_
       refine a4J (k := 37) (js := [27, 900510, 900511, 36]) 12 hT rfl (by kernel_rfl) rfl rfl rfl rfl rfl rfl rfl rfl rfl rfl rfl (a1y (a0a rfl) rfl rfl rfl (a1y (a0a rfl) rfl rfl rfl (a1y (a0a rfl) rfl rfl rfl (a1y (a0a rfl) rfl rfl rfl a4f)))) (a0t (a1i rfl) (a0t (a1i rfl) (a0t (a1i rfl) (a0t (a1i rfl) a1m rfl) rfl) rfl) rfl) (by decide) (by decide) rfl rfl rfl rfl ?_
       simp only [a0l, a0j, SV.kill, CV.kill, kk, Nat.reduceBEq]
       refine a2F 13 rfl (by kernel_rfl) rfl rfl (a2S (n := (4)) hT rfl rfl (a0a rfl) rfl rfl) rfl rfl rfl rfl ?_
       refine a1J (by kernel_rfl) ?_
       exact a2p (a0e ⟨rfl, rfl, rfl, rfl, rfl, rfl, rfl, rfl, rfl, trivial⟩ ⟨rfl, trivial⟩ ⟨rfl, rfl, rfl, trivial⟩ rfl)
      ·refine a5W 900011 8 rfl rfl rfl rfl Tryz.call86 (a4O (r := (((l)).getD ((k : Int)).toNat default).2.2.2.1) ) (a0g (a0a rfl) (a0s (a0d a0c a0r)) a0m) rfl rfl rfl rfl rfl ?_
       refine a6a (k := 27) 2 hT rfl (by kernel_rfl) rfl rfl rfl rfl rfl rfl rfl (a0a rfl) rfl rfl rfl ?_
       refine a4J (k := 37) (js := [27, 900510, 900511, 36]) 12 hT rfl (by kernel_rfl) rfl rfl rfl rfl rfl rfl rfl rfl rfl rfl rfl (a1y (a0a rfl) rfl rfl rfl (a1y (a0a rfl) rfl rfl rfl (a1y (a0a rfl) rfl rfl rfl (a1y (a0a rfl) rfl rfl rfl a4f)))) (a0t (a1i rfl) (a0t (a1i rfl) (a0t (a1i rfl) (a0t (a1i rfl) a1m rfl) rfl) rfl) rfl) (by decide) (by decide) rfl rfl rfl rfl ?_
       simp only [a0l, a0j, SV.kill, CV.kill, kk, Nat.reduceBEq]
       refine a2F 13 rfl (by kernel_rfl) rfl rfl (a2S (n := (4)) hT rfl rfl (a0a rfl) rfl rfl) rfl rfl rfl rfl ?_
       refine a1J (by kernel_rfl) ?_
       exact a2p (a0e ⟨rfl, rfl, rfl, rfl, rfl, rfl, rfl, rfl, rfl, trivial⟩ ⟨rfl, trivial⟩ ⟨rfl, rfl, rfl, trivial⟩ rfl)
    ·refine a4u (k := 36) 11 hT rfl rfl rfl rfl rfl rfl rfl rfl (a0a rfl) rfl rfl rfl ?_
     refine a5z 2 [5] (by kernel_rfl) ⟨?_, ?_, trivial⟩
     ·refine a4u (k := 27) 2 hT rfl rfl rfl rfl rfl rfl rfl rfl (a0a rfl) rfl rfl rfl ?_
      refine a2j 900498 5 rfl (by kernel_rfl) rfl rfl rfl Tryz.call85 (a7A (k := (((l)).getD ((k : Int)).toNat default).2.2.1) ) (a0g (a0a rfl) (a0s (a0d a0c (a0d a0c (a0d a0c a0r)))) a0m) rfl rfl rfl rfl rfl ?_
      refine a2j 900011 8 rfl (by kernel_rfl) rfl rfl rfl Tryz.call86 (a4O (r := (((l)).getD ((k : Int)).toNat default).2.2.2.1) ) (a0g (a0a rfl) (a0s (a0d a0c a0r)) a0m) rfl rfl rfl rfl rfl ?_
      refine a4J (k := 37) (js := [27, 900510, 900511, 36]) 12 hT rfl (by kernel_rfl) rfl rfl rfl rfl rfl rfl rfl rfl rfl rfl rfl (a1y (a0a rfl) rfl rfl rfl (a1y (a0a rfl) rfl rfl rfl (a1y (a0a rfl) rfl rfl rfl (a1y (a0a rfl) rfl rfl rfl a4f)))) (a0t (a1i rfl) (a0t (a1i rfl) (a0t (a1i rfl) (a0t (a1i rfl) a1m rfl) rfl) rfl) rfl) (by decide) (by decide) rfl rfl rfl rfl ?_
      simp only [a0l, a0j, SV.kill, CV.kill, kk, Nat.reduceBEq]
      refine a2F 13 rfl (by kernel_rfl) rfl rfl (a2S (n := (4)) hT rfl rfl (a0a rfl) rfl rfl) rfl rfl rfl rfl ?_
      refine a1J (by kernel_rfl) ?_
      exact a2p (a0e ⟨rfl, rfl, rfl, rfl, rfl, rfl, rfl, rfl, rfl, trivial⟩ ⟨rfl, trivial⟩ ⟨rfl, rfl, rfl, trivial⟩ rfl)
     ·refine a5W 900498 5 rfl rfl rfl rfl Tryz.call85 (a7A (k := (((l)).getD ((k : Int)).toNat default).2.2.1) ) (a0g (a0a rfl) (a0s (a0d a0c (a0d a0c (a0d a0c a0r)))) a0m) rfl rfl rfl rfl rfl ?_
      refine a5z 2 [8] (by kernel_rfl) ⟨?_, ?_, trivial⟩
      ·refine a4u (k := 27) 2 hT rfl rfl rfl rfl rfl rfl rfl rfl (a0a rfl) rfl rfl rfl ?_
       refine a2j 900011 8 rfl (by kernel_rfl) rfl rfl rfl Tryz.call86 (a4O (r := (((l)).getD ((k : Int)).toNat default).2.2.2.1) ) (a0g (a0a rfl) (a0s (a0d a0c a0r)) a0m) rfl rfl rfl rfl rfl ?_
       refine a4J (k := 37) (js := [27, 900510, 900511, 36]) 12 hT rfl (by kernel_rfl) rfl rfl rfl rfl rfl rfl rfl rfl rfl rfl rfl (a1y (a0a rfl) rfl rfl rfl (a1y (a0a rfl) rfl rfl rfl (a1y (a0a rfl) rfl rfl rfl (a1y (a0a rfl) rfl rfl rfl a4f)))) (a0t (a1i rfl) (a0t (a1i rfl) (a0t (a1i rfl) (a0t (a1i rfl) a1m rfl) rfl) rfl) rfl) (by decide) (by decide) rfl rfl rfl rfl ?_
       simp only [a0l, a0j, SV.kill, CV.kill, kk, Nat.reduceBEq]
       refine a2F 13 rfl (by kernel_rfl) rfl rfl (a2S (n := (4)) hT rfl rfl (a0a rfl) rfl rfl) rfl rfl rfl rfl ?_
       refine a1J (by kernel_rfl) ?_
       exact a2p (a0e ⟨rfl, rfl, rfl, rfl, rfl, rfl, rfl, rfl, rfl, trivial⟩ ⟨rfl, trivial⟩ ⟨rfl, rfl, rfl, trivial⟩ rfl)
      ·refine a5W 900011 8 rfl rfl rfl rfl Tryz.call86 (a4O (r := (((l)).getD ((k : Int)).toNat default).2.2.2.1) ) (a0g (a0a rfl) (a0s (a0d a0c a0r)) a0m) rfl rfl rfl rfl rfl ?_
       refine a6a (k := 27) 2 hT rfl (by kernel_rfl) rfl rfl rfl rfl rfl rfl rfl (a0a rfl) rfl rfl rfl ?_
       refine a4J (k := 37) (js := [27, 900510, 900511, 36]) 12 hT rfl (by kernel_rfl) rfl rfl rfl rfl rfl rfl rfl rfl rfl rfl rfl (a1y (a0a rfl) rfl rfl rfl (a1y (a0a rfl) rfl rfl rfl (a1y (a0a rfl) rfl rfl rfl (a1y (a0a rfl) rfl rfl rfl a4f)))) (a0t (a1i rfl) (a0t (a1i rfl) (a0t (a1i rfl) (a0t (a1i rfl) a1m rfl) rfl) rfl) rfl) (by decide) (by decide) rfl rfl rfl rfl ?_
       simp only [a0l, a0j, SV.kill, CV.kill, kk, Nat.reduceBEq]
       refine a2F 13 rfl (by kernel_rfl) rfl rfl (a2S (n := (4)) hT rfl rfl (a0a rfl) rfl rfl) rfl rfl rfl rfl ?_
       refine a1J (by kernel_rfl) ?_
       exact a2p (a0e ⟨rfl, rfl, rfl, rfl, rfl, rfl, rfl, rfl, rfl, trivial⟩ ⟨rfl, trivial⟩ ⟨rfl, rfl, rfl, trivial⟩ rfl)
   refine z ?_
   refine a0h (c7P (d := 37) (dd := b3J (a4B (l.getD (k : Int).toNat default))) rfl rfl (c0L (b0K b0J (b0K b0J (b0K b0J (b0K b0J c3C)))))) ?_
   refine a0X (ι := Nat) (fun zz => ⟨[(2, .one .nil), (3, .one (.key 900501)), (15, .one (.dv [] (a1T (l)))), (16, .one (.dv [] (.int .i64 ((((l)).length : Int))))), (17, .one (.dv [] (.int .i64 ((k : Int))))), (37, .one (.dv [37] (b3J (a4B (l.getD (k : Int).toNat default))))), (38, .one (.dv [] (.int .i64 (((4) : Int))))), (39, .one (.dv [] (.int .i64 ((zz : Int)))))], [], [(37, some (a0b false (.sl 26 1 (4) ([.sl 1000005 1 (((((l)).getD ((k : Int)).toNat default).2.1).data.toList.length) (((((l)).getD ((k : Int)).toNat default).2.1).data.toList.flatMap a0V), a0x (a1o ((((l)).getD ((k : Int)).toNat default).2.2.1)), a0x (a2b ((((l)).getD ((k : Int)).toNat default).2.2.2.1)), .sl 1000005 1 (((((l)).getD ((k : Int)).toNat default).2.2.2.2).data.toList.length) (((((l)).getD ((k : Int)).toNat default).2.2.2.2).data.toList.flatMap a0V)])))), (900500, some (a0b false (.sl 5 1 ((a1B l k).length) ((a1B l k).flatMap a0V)))), (900501, some (a0b false (.sl 5 1 ((a2N (a1B l k) (l.getD (k : Int).toNat default) zz).length) ((a2N (a1B l k) (l.getD (k : Int).toNat default) zz).flatMap a0V))))]⟩) (fun zz => zz ≤ 4) (fun zz => 4 - zz) (0) ?_ (a0e ⟨rfl, rfl, rfl, rfl, rfl, rfl, rfl, rfl, trivial⟩ trivial ⟨rfl, rfl, rfl, trivial⟩ rfl) (fun zz hx => ?_)
   ·exact Nat.zero_le _
   obtain ⟨j, rfl⟩ : ∃ v, v = zz := ⟨_, rfl⟩
   replace hx : j ≤ 4 := hx
   have hj := hx
   show Ok _ _ _ _ _ (⟨[(2, .one .nil), (3, .one (.key 900501)), (15, .one (.dv [] (a1T (l)))), (16, .one (.dv [] (.int .i64 ((((l)).length : Int))))), (17, .one (.dv [] (.int .i64 ((k : Int))))), (37, .one (.dv [37] (b3J (a4B (l.getD (k : Int).toNat default))))), (38, .one (.dv [] (.int .i64 (((4) : Int))))), (39, .one (.dv [] (.int .i64 ((j : Int)))))], [], [(37, some (a0b false (.sl 26 1 (4) ([.sl 1000005 1 (((((l)).getD ((k : Int)).toNat default).2.1).data.toList.length) (((((l)).getD ((k : Int)).toNat default).2.1).data.toList.flatMap a0V), a0x (a1o ((((l)).getD ((k : Int)).toNat default).2.2.1)), a0x (a2b ((((l)).getD ((k : Int)).toNat default).2.2.2.1)), .sl 1000005 1 (((((l)).getD ((k : Int)).toNat default).2.2.2.2).data.toList.length) (((((l)).getD ((k : Int)).toNat default).2.2.2.2).data.toList.flatMap a0V)])))), (900500, some (a0b false (.sl 5 1 ((a1B l k).length) ((a1B l k).flatMap a0V)))), (900501, some (a0b false (.sl 5 1 ((a2N (a1B l k) (l.getD (k : Int).toNat default) j).length) ((a2N (a1B l k) (l.getD (k : Int).toNat default) j).flatMap a0V))))]⟩ : St)
   iterate 3 refine z ?_
   refine a0q ?_
   refine yQ rfl (fun c3 => ?_) fun c3 => ?_
   ·have d3 := of_decide_eq_true c3
    have hj4 : j < 4 := by omega
    have hpn : (a4B (l.getD (k : Int).toNat default)).length = 4 := rfl
    have hpl := b5e hop j
    have hol := a7s (b := (a1B l k)) hop j
    iterate 9 refine z ?_
    refine a0k ?_
    iterate 2 refine z ?_
    refine a2J 892472 rfl rfl rfl Tryz.call90 (b7H (x := (a2N (a1B l k) (l.getD (k : Int).toNat default) j)) (y := (a4B (l.getD (k : Int).toNat default)).getD (j : Int).toNat default) (by omega) (by omega)) (a0g (a0a rfl) (a0D (a0Q rfl rfl)) (a0g (a0a rfl) (a0D a0c) a0m)) rfl rfl rfl ?_
    refine z ?_
    refine a1t ?_
    iterate 2 refine z ?_
    refine a0h (a8j (s := 3) (k := 900502) (k' := 900501) rfl rfl rfl (by decide) rfl) ?_
    simp only [a0l, a0j, SV.kill, CV.kill, kk, Nat.reduceBEq]
    refine a0k ?_
    iterate 3 refine z ?_
    refine ⟨j + 1, ?_, ?_, a0e ⟨rfl, rfl, rfl, rfl, rfl, rfl, rfl, rfl, trivial⟩ trivial ⟨rfl, rfl, rfl, trivial⟩ rfl⟩
    ·omega
    ·omega
   ·have d3 := of_decide_eq_false c3
    have hj4 : j = 4 := by omega
    iterate 6 refine z ?_
    refine a0h (a8j (s := 3) (k := 900501) (k' := 900500) rfl rfl rfl (by decide) rfl) ?_
    simp only [a0l, a0j, SV.kill, CV.kill, kk, Nat.reduceBEq]
    refine a0k ?_
    iterate 3 refine z ?_
    refine ⟨k + 1, ?_, ?_, a0e ⟨rfl, rfl, rfl, rfl, rfl, trivial⟩ trivial ⟨(by rw [hj4]; rfl), trivial⟩ rfl⟩
    ·omega
    ·omega
  ·have d2 := of_decide_eq_false c2
   iterate 9 refine z ?_
   refine a0h (σ' := ⟨[(2, .one (.key 900500))], [], [(900500, some (a0b false (a0x (a1X l))))]⟩) (a0e ⟨rfl, trivial⟩ trivial ⟨(by first | exact congrArg (fun l : List UInt8 => some (some (KC.mk false 5 1 l.length (l.flatMap a0V)))) (show ([] : List UInt8) = a1X l from (a7W hk0).symm) | exact congrArg (fun l : List UInt8 => some (some (KC.mk false 5 1 l.length (l.flatMap a0V)))) (a6q hk1 (by omega)).symm), trivial⟩ rfl) ?_
   refine z ?_
   refine a1p (a0i rfl) ?_
   exact ⟨rfl, rfl⟩
theorem c2J {l : List OpT} (hb : l.length ≤ 1048576) : KFn Tryz.prog 41 [.one (.dv [] (a1T (l)))] (.one (.key 900500)) [(900500, some (a0b false (a0x (a1X l))))] := by
 refine ⟨a0v Tryz.func41 rfl Tryz.ntmps41 Tryz.results41 rfl (fun C => ?_)⟩
 refine a0E (x := .tmp 0) (a0a rfl) fun f0 => ?_
 iterate 4 refine z ?_
 refine a2f (k := 5) hT rfl rfl rfl rfl rfl rfl rfl rfl ?_
 iterate 2 refine z ?_
 refine a2J 900494 rfl rfl rfl Tryz.call68 (a8e (x := []) (n := (l.length : Int)) (by simp)) (a0g (a0a rfl) (a0D (a0Q rfl rfl)) (a0g (a0a rfl) (a0D a0c) a0m)) rfl rfl rfl ?_
 iterate 7 refine z ?_
 refine a0X (ι := Nat) (fun zz => ⟨[(0, .one (.dv [] (a1T (l)))), (3, .one (.key 900500)), (4, .one (.dv [] (.int .i64 ((zz : Int)))))], [], [(900500, some (a0b false (.sl 5 1 ((a1B l zz).length) ((a1B l zz).flatMap a0V))))]⟩) (fun zz => zz ≤ l.length ∧ (l.take zz).all a1E = true) (fun zz => l.length - zz) (0) ?_ (a0e ⟨rfl, rfl, rfl, trivial⟩ trivial ⟨rfl, trivial⟩ rfl) (fun zz hx => ?_)
 ·exact ⟨Nat.zero_le _, rfl⟩
 obtain ⟨k, rfl⟩ : ∃ v, v = zz := ⟨_, rfl⟩
 replace hx : k ≤ l.length ∧ (l.take k).all a1E = true := hx
 obtain ⟨hk, hall⟩ := hx
 show Ok _ _ _ _ _ (⟨[(0, .one (.dv [] (a1T (l)))), (3, .one (.key 900500)), (4, .one (.dv [] (.int .i64 ((k : Int)))))], [], [(900500, some (a0b false (.sl 5 1 ((a1B l k).length) ((a1B l k).flatMap a0V))))]⟩ : St)
 iterate 7 refine z ?_
 refine yQ rfl (fun c1 => ?_) fun c1 => ?_
 ·have d1 := of_decide_eq_true c1
  iterate 10 refine z ?_
  refine zC Tryz.call69 ?_ (hf := b7d (x := (((l)).getD ((k : Int)).toNat default)) )
  iterate 2 refine z ?_
  refine yQ rfl (fun c2 => ?_) fun c2 => ?_
  ·have hkl : k < l.length := by omega
   have hk0 : a2l l = false := b8q hkl (by simpa using c2)
   refine a0q ?_
   refine a0h (σ' := ⟨[], [], []⟩) (a0e trivial trivial trivial rfl) ?_
   refine a0k ?_
   refine a2f (k := 900500) hT rfl rfl rfl rfl rfl rfl rfl rfl ?_
   iterate 2 refine z ?_
   refine a0h (σ' := ⟨[(2, .one (.key 900500))], [], [(900500, some (a0b false (a0x (a1X l))))]⟩) (a0e ⟨rfl, trivial⟩ trivial ⟨(by first | exact congrArg (fun l : List UInt8 => some (some (KC.mk false 5 1 l.length (l.flatMap a0V)))) (show ([] : List UInt8) = a1X l from (a7W hk0).symm) | exact congrArg (fun l : List UInt8 => some (some (KC.mk false 5 1 l.length (l.flatMap a0V)))) (a6q hk1 (by omega)).symm), trivial⟩ rfl) ?_
   iterate 7 refine z ?_
   refine a1p (a0i rfl) ?_
   exact ⟨rfl, rfl⟩
  ·have hkl : k < l.length := by omega
   have hop := (by simpa using c2 : a1E (l.getD (k : Int).toNat default) = true)
   have hrg := b1r hop
   have hek := b1t (l.getD (k : Int).toNat default).2.2.1
   have her := b1p (l.getD (k : Int).toNat default).2.2.2.1
   have hen := b4f k hk hall
   have hl0 := a7s (b := (a1B l k)) hop 0
   have hl1 := a7s (b := (a1B l k)) hop 1
   have hl2 := a7s (b := (a1B l k)) hop 2
   have hl3 := a7s (b := (a1B l k)) hop 3
   iterate 2 refine z ?_
   refine a5O (σ' := ⟨[(0, .one (.dv [] (a1T (l)))), (3, .one (.key 900502)), (4, .one (.dv [] (.int .i64 ((k : Int)))))], [], [(900500, some (a0b false (.sl 5 1 ((a1B l k).length) ((a1B l k).flatMap a0V)))), (900502, some (a0b false (a0x (a2N (a1B l k) (l.getD (k : Int).toNat default) 1))))]⟩) ?_ ?_
   ·refine a1M (oB := []) (oK := [900500]) (by kernel_rfl) rfl rfl ?_
    refine zD 0 ?_
    refine zD 1 ?_
    refine zD 2 ?_
    refine zD 3 ?_
    refine zD 4 ?_
    refine zD 5 ?_
    refine zD 7 ?_
    refine zD 8 ?_
    refine zD 9 ?_
    refine zD 10 ?_
    refine zD 11 ?_
    refine a5z 6 [12] (by kernel_rfl) ⟨?_, ?_, trivial⟩
    ·refine a5W 900495 6 rfl rfl rfl rfl Tryz.call68 (a8e (x := (a1B l k)) (n := (l.getD (k : Int).toNat default).1) (by omega)) (a0g (a0a rfl) (a0D (a0Q rfl rfl)) (a0g (a0a rfl) (a0D a0c) a0m)) rfl rfl rfl rfl rfl ?_
     refine a6a (k := 34) 12 hT rfl (by kernel_rfl) rfl rfl rfl rfl rfl rfl rfl (a0a rfl) rfl rfl rfl ?_
     refine a2j 892496 13 rfl (by kernel_rfl) rfl rfl rfl Tryz.call70 (a8K (x := a2N (a1B l k) (l.getD (k : Int).toNat default) 0) (y := (l.getD (k : Int).toNat default).2.1.data.toList) (by omega) (by omega)) (a0g (a0a rfl) (a0D (a0Q rfl rfl)) (a0g (a0a rfl) (a0D (a0Q rfl rfl)) a0m)) rfl rfl rfl rfl rfl ?_
     refine zD 14 ?_
     refine a1J (by kernel_rfl) ?_
     exact a2p (a0e ⟨rfl, rfl, rfl, trivial⟩ trivial ⟨rfl, rfl, trivial⟩ rfl)
    ·refine a4u (k := 34) 12 hT rfl rfl rfl rfl rfl rfl rfl rfl (a0a rfl) rfl rfl rfl ?_
     refine a2j 900495 6 rfl (by kernel_rfl) rfl rfl rfl Tryz.call68 (a8e (x := (a1B l k)) (n := (l.getD (k : Int).toNat default).1) (by omega)) (a0g (a0a rfl) (a0D (a0Q rfl rfl)) (a0g (a0a rfl) (a0D a0c) a0m)) rfl rfl rfl rfl rfl ?_
     refine a2j 892496 13 rfl (by kernel_rfl) rfl rfl rfl Tryz.call70 (a8K (x := a2N (a1B l k) (l.getD (k : Int).toNat default) 0) (y := (l.getD (k : Int).toNat default).2.1.data.toList) (by omega) (by omega)) (a0g (a0a rfl) (a0D (a0Q rfl rfl)) (a0g (a0a rfl) (a0D (a0Q rfl rfl)) a0m)) rfl rfl rfl rfl rfl ?_
     refine zD 14 ?_
     refine a1J (by kernel_rfl) ?_
     exact a2p (a0e ⟨rfl, rfl, rfl, trivial⟩ trivial ⟨rfl, rfl, trivial⟩ rfl)
   refine a0q ?_
   refine a1M (oB := []) (oK := [900500, 900502]) (by kernel_rfl) rfl rfl ?_
   refine zD 0 ?_
   refine zD 1 ?_
   refine zD 2 ?_
   refine zD 3 ?_
   refine zD 4 ?_
   refine zD 5 ?_
   refine zD 8 ?_
   refine zD 9 ?_
   refine zD 10 ?_
   refine zD 11 ?_
   refine zD 12 ?_
   refine a2j 900491 6 rfl (by kernel_rfl) rfl rfl rfl Tryz.call71 (c5G (k := (((l)).getD ((k : Int)).toNat default).2.2.1) ) (a0g (a0a rfl) (a0s (a0d a0c (a0d a0c (a0d a0c a0r)))) a0m) rfl rfl rfl rfl rfl ?_
   refine a2j 892498 7 rfl (by kernel_rfl) rfl rfl rfl Tryz.call70 (a8K (x := a2N (a1B l k) (l.getD (k : Int).toNat default) 1) (y := a1o (l.getD (k : Int).toNat default).2.2.1) (by omega) (by omega)) (a0g (a0a rfl) (a0D (a0Q rfl rfl)) (a0g (a0a rfl) (a0D (a0Q rfl rfl)) a0m)) rfl rfl rfl rfl rfl ?_
   refine a2j 900005 13 rfl (by kernel_rfl) rfl rfl rfl Tryz.call72 (c7C (r := (((l)).getD ((k : Int)).toNat default).2.2.2.1) ) (a0g (a0a rfl) (a0s (a0d a0c a0r)) a0m) rfl rfl rfl rfl rfl ?_
   refine a2j 892500 14 rfl (by kernel_rfl) rfl rfl rfl Tryz.call70 (a8K (x := a2N (a1B l k) (l.getD (k : Int).toNat default) 2) (y := a2b (l.getD (k : Int).toNat default).2.2.2.1) (by omega) (by omega)) (a0g (a0a rfl) (a0D (a0Q rfl rfl)) (a0g (a0a rfl) (a0D (a0Q rfl rfl)) a0m)) rfl rfl rfl rfl rfl ?_
   refine zD 15 ?_
   refine a1J (by kernel_rfl) ?_
   refine z ?_
   refine a0k ?_
   iterate 6 refine z ?_
   refine b8d (k := 57) hT rfl rfl rfl rfl rfl rfl rfl (a0a rfl) rfl ?_
   refine a2J 892501 rfl rfl rfl Tryz.call70 (a8K (x := a2N (a1B l k) (l.getD (k : Int).toNat default) 3) (y := (l.getD (k : Int).toNat default).2.2.2.2.data.toList) (by omega) (by omega)) (a0g (a0a rfl) (a0D (a0Q rfl rfl)) (a0g (a0a rfl) (a0D (a0Q rfl rfl)) a0m)) rfl rfl rfl ?_
   refine z ?_
   refine a1t ?_
   iterate 2 refine z ?_
   refine a0h (a8j (s := 3) (k := 900507) (k' := 900500) rfl rfl rfl (by decide) rfl) ?_
   simp only [a0l, a0j, SV.kill, CV.kill, kk, Nat.reduceBEq]
   refine a0k ?_
   iterate 4 refine z ?_
   refine ⟨k + 1, ?_, ?_, a0e ⟨rfl, rfl, rfl, trivial⟩ trivial ⟨rfl, trivial⟩ rfl⟩
   ·exact ⟨by omega, b9D hall hkl hop⟩
   ·omega
 ·have d1 := of_decide_eq_false c1
  iterate 11 refine z ?_
  refine yQ rfl (fun c3 => ?_) fun c3 => ?_
  ·have d3 := of_decide_eq_true c3
   have hk0 : a2l l = false := by rw [b3x hall (by omega)]; exact decide_eq_false (by omega)
   refine a0q ?_
   refine a0h (σ' := ⟨[], [], []⟩) (a0e trivial trivial trivial rfl) ?_
   refine a0k ?_
   refine a2f (k := 900500) hT rfl rfl rfl rfl rfl rfl rfl rfl ?_
   iterate 2 refine z ?_
   refine a0h (σ' := ⟨[(2, .one (.key 900500))], [], [(900500, some (a0b false (a0x (a1X l))))]⟩) (a0e ⟨rfl, trivial⟩ trivial ⟨(by first | exact congrArg (fun l : List UInt8 => some (some (KC.mk false 5 1 l.length (l.flatMap a0V)))) (show ([] : List UInt8) = a1X l from (a7W hk0).symm) | exact congrArg (fun l : List UInt8 => some (some (KC.mk false 5 1 l.length (l.flatMap a0V)))) (a6q hk1 (by omega)).symm), trivial⟩ rfl) ?_
   iterate 2 refine z ?_
   refine a1p (a0i rfl) ?_
   exact ⟨rfl, rfl⟩
  ·have d3 := of_decide_eq_false c3
   have hk1 : a2l l = true := by rw [b3x hall (by omega)]; exact decide_eq_true (by omega)
   iterate 6 refine z ?_
   refine a0h (σ' := ⟨[(2, .one (.key 900500))], [], [(900500, some (a0b false (a0x (a1X l))))]⟩) (a0e ⟨rfl, trivial⟩ trivial ⟨(by first | exact congrArg (fun l : List UInt8 => some (some (KC.mk false 5 1 l.length (l.flatMap a0V)))) (show ([] : List UInt8) = a1X l from (a7W hk0).symm) | exact congrArg (fun l : List UInt8 => some (some (KC.mk false 5 1 l.length (l.flatMap a0V)))) (a6q hk1 (by omega)).symm), trivial⟩ rfl) ?_
   refine z ?_
   refine a1p (a0i rfl) ?_
   exact ⟨rfl, rfl⟩
theorem b5a (a b : Str) : sEq a b = sEq b a := by unfold sEq; rw [Bool.eq_iff_iff, beq_iff_eq, beq_iff_eq]; exact ⟨Eq.symm, Eq.symm⟩
theorem b9F (a b : a2V) : a3w a b = a3w b a := by unfold a3w; rw [b5a a.1, b5a a.2]
theorem b7K {α : Type} {p : α → Bool} : ∀ (xs : List α) (i : Int), 0 ≤ i → xs.any p = true → i ≤ a0u p xs i
 | [], _, _, h => by simp at h
 | x :: xs, i, hi, h => by
  rw [a0u]
  split
  ·omega
  ·rename_i hp
   rw [List.any_cons] at h
   have hp' : p x = false := by simpa using hp
   rw [hp', Bool.false_or] at h
   have := b7K xs (i + 1) (by omega) h
   omega
theorem b9y {α : Type} {p : α → Bool} : ∀ (xs : List α) (i : Int), xs.any p = false → a0u p xs i = -1
 | [], _, _ => rfl
 | x :: xs, i, h => by
  simp only [List.any_cons, Bool.or_eq_false_iff] at h
  rw [a0u, if_neg (by rw [h.1]; simp)]
  exact b9y xs (i + 1) h.2
theorem c6m {α : Type} {p : α → Bool} (xs : List α) : decide (0 ≤ a0u p xs 0) = xs.any p := by
 cases h : xs.any p with
 | true => exact decide_eq_true (b7K xs 0 (by omega) h)
 | false => rw [b9y xs 0 h]; rfl
def a5F (d : DbT) (k : Nat) : Bool := !a1D (d.2.2.1.getD (k : Int).toNat default) || (decide ((0 : Int) < (k : Int)) && (sLt (d.2.2.1.getD (k : Int).toNat default).1 (d.2.2.1.getD ((k : Int) - 1).toNat default).1 || sEq (d.2.2.1.getD (k : Int).toNat default).1 (d.2.2.1.getD ((k : Int) - 1).toNat default).1))
def b3k (d : DbT) (k : Nat) : Bool := !a1D (d.2.2.1.getD (k : Int).toNat default) || (decide ((0 : Int) < (k : Int)) && !sLt (d.2.2.1.getD ((k : Int) - 1).toNat default).1 (d.2.2.1.getD (k : Int).toNat default).1)
theorem b9m (d : DbT) (k : Nat) : b3k d k = a5F d k := by unfold b3k a5F; rw [a8r]
@[reducible] def a1Y (d : DbT) (n : Str) : Int := a0u (a0G n) d.2.2.1 0
def a9Z (d : DbT) (x : a2V) : Bool := (a3u x.2 (a0H x.2 (d.2.2.1.getD (a1Y d x.1).toNat default).2.1 (d.2.2.1.getD (a1Y d x.1).toNat default).2.1.length)).2.2
def a3M (d : DbT) (k : Nat) : Bool := ((decide (a1Y d (d.2.2.2.getD (k : Int).toNat default).1 < 0) || !a3b (d.2.2.2.getD (k : Int).toNat default).2) || (d.2.2.2.take (k : Int).toNat).any (a3w (d.2.2.2.getD (k : Int).toNat default))) || a9Z d (d.2.2.2.getD (k : Int).toNat default)
def a8A (d : DbT) : Bool := ((a3b d.1 && (decide (0 ≤ d.2.1) && decide (d.2.1 ≤ 1000))) && decide ((d.2.2.1.length : Int) ≤ 4)) && decide ((d.2.2.2.length : Int) ≤ 4)
def a6J (d : DbT) : Bool := (List.range d.2.2.1.length).all (fun i => !a5F d i)
def b1x (d : DbT) : Bool := (List.range d.2.2.2.length).all (fun i => !a3M d i)
def a1V (d : DbT) : Bool := a8A d && (a6J d && b1x d)
theorem a6Y {s : a0P} (h : a1D s = true) : a0T s ≤ 1000 * 1000 := by
 have h0 := h
 simp only [a1D, Bool.and_eq_true, List.all_eq_true, decide_eq_true_eq] at h
 obtain ⟨h1, ⟨h2, h3⟩, h4⟩ := h
 have h5 := a6X h2
 have h6 : ∀ x ∈ s.2.1, a1e x ≤ 70 := fun x hx => by
  obtain ⟨i, hi, rfl⟩ := List.mem_iff_getElem.1 hx
  have h7 := h1 i (List.mem_range.2 hi)
  unfold a4y at h7
  rw [a4e hi] at h7
  simp only [Bool.not_or, Bool.not_not, Bool.and_eq_true] at h7
  have h8 := (a6N h7.1.1).2.2
  have h9 := h7.1.2
  have h10 := b0F h9
  have h11 : wSum a1S s.2.1[i].2 ≤ 8 * s.2.1[i].2.length := by
   have key : ∀ r : a0y, (∀ f ∈ r, f.1.size ≤ 8) → wSum a1S r ≤ 8 * r.length := by
    intro r
    induction r with
    | nil => intro _; simp [wSum]
    | cons f r ih =>
     intro hf
     have k1 := ih (fun g hg => hf g (by simp [hg]))
     have k2 := hf f (by simp)
     have k3 : a1S f = f.1.size := rfl
     simp only [wSum, List.map_cons, List.sum_cons, List.length_cons] at *
     omega
   refine key _ (fun f hf => ?_)
   obtain ⟨j, hj, rfl⟩ := List.mem_iff_getElem.1 hf
   have := (a6X (a9l h9 hj).1).2
   rwa [a4e hj] at this
  have h12 : a1e s.2.1[i] = s.2.1[i].1.2.2.size + a2W s.2.1[i].2 := rfl
  have h13 : a2W s.2.1[i].2 = s.2.1[i].2.length + wSum a1S s.2.1[i].2 := rfl
  omega
 have h7 : wSum a1e s.2.1 ≤ 70 * s.2.1.length := by
  have key : ∀ l : List a0L, (∀ x ∈ l, a1e x ≤ 70) → wSum a1e l ≤ 70 * l.length := by
   intro l
   induction l with
   | nil => intro _; simp [wSum]
   | cons x l ih =>
    intro hx
    have k1 := ih (fun g hg => hx g (by simp [hg]))
    have k2 := hx x (by simp)
    simp only [wSum, List.map_cons, List.sum_cons, List.length_cons] at *
    omega
  exact key _ h6
 have h8 : a0T s = s.1.size + (s.2.1.length + wSum a1e s.2.1) := rfl
 omega
theorem a7f {d : DbT} {i : Int} (h : a6J d = true) (h0 : 0 ≤ i) (h1 : i < d.2.2.1.length) : a1D (d.2.2.1.getD i.toNat default) = true := by
 simp only [a6J, List.all_eq_true] at h
 have h2 := h i.toNat (List.mem_range.2 (by omega))
 unfold a5F at h2
 rw [Int.toNat_natCast] at h2
 simp only [Bool.not_or, Bool.not_not, Bool.and_eq_true] at h2
 exact h2.1
theorem a8I (d : DbT) (n : Str) : a1Y d n < d.2.2.1.length := by
 rcases a7S (p := a0G n) d.2.2.1 0 (by omega) with h1 | h1
 ·unfold a1Y; omega
 ·unfold a1Y; omega
theorem c3j {d : DbT} (h : a8A d = false) : a1V d = false := by rw [a1V, h]; rfl
theorem b9Q {d : DbT} {k : Nat} (hk : k < d.2.2.1.length) (h : a5F d k = true) : a1V d = false := by
 have : a6J d = false := a7q hk (by rw [h]; rfl)
 rw [a1V, this]; simp
theorem a9U {d : DbT} {k : Nat} (hk : k < d.2.2.2.length) (h : a3M d k = true) : a1V d = false := by
 have : b1x d = false := a7q hk (by rw [h]; rfl)
 rw [a1V, this]; simp
theorem c0G {d : DbT} {k j : Nat} (hj : j = k) (h1 : (decide (a0u (a0G (d.2.2.2.getD (k : Int).toNat default).1) d.2.2.1 0 < 0) || !a3b (d.2.2.2.getD (k : Int).toNat default).2) = false)
  (h3 : (d.2.2.2.take j).any (a3w (d.2.2.2.getD (k : Int).toNat default)) = false) (h2 : a9Z d (d.2.2.2.getD (k : Int).toNat default) = false) : (!a3M d k) = true := by
 subst hj
 have h4 : (d.2.2.2.take ((j : Nat) : Int).toNat).any (a3w (d.2.2.2.getD (j : Int).toNat default)) = false := h3
 rw [a3M, h1, h4, h2]; rfl
theorem c0I {d : DbT} {k j : Nat} (hj : j < k) (hk : k < d.2.2.2.length) (h : a3w (d.2.2.2.getD (j : Int).toNat default) (d.2.2.2.getD (k : Int).toNat default) = true) : a3M d k = true := by
 have h4 : (d.2.2.2.take ((k : Nat) : Int).toNat).any (a3w (d.2.2.2.getD (k : Int).toNat default)) = true := by
  refine c4e (k := j) (d := default) (by rw [List.length_take, Int.toNat_natCast]; omega) ?_
  rw [c7Q (by omega), b9F]; exact h
 rw [a3M, h4]; simp
theorem b8F {d : DbT} (h1 : a6J d = true) (h2 : b1x d = true) : a1V d = a8A d := by rw [a1V, h1, h2]; simp
theorem c5X {l : List a2V} {v : a2V}  : PFn Tryz.prog 125 [.one (.dv [] (a0B (l))), .agg [(.dv [] (.str (v.1))), (.dv [] (.str (v.2)))]] (.one (.dv [] (.int .i64 (a0u (a3w v) l 0)))) := by
 refine ⟨a0v Tryz.func125 rfl Tryz.ntmps125 Tryz.results125 rfl (fun C => ?_)⟩
 refine a0E (x := .tmp 0) (a0a rfl) fun f0 => ?_
 refine yF 1 0 rfl rfl fun f1_0 => ?_
 refine yF 1 1 rfl rfl fun f1_1 => ?_
 iterate 11 refine z ?_
 refine a0X (ι := Nat) (fun zz => ⟨[(0, .one (.dv [] (a0B (l)))), (3, .box 3 0), (7, .one (.dv [] (.int .i64 ((((l)).length : Int))))), (8, .one (.dv [] (.int .i64 ((zz : Int)))))], [(3, 97, [(.dv [] (.str (v.1))), (.dv [] (.str (v.2)))])], []⟩) (fun zz => zz ≤ l.length ∧ (l.take zz).any (a3w v) = false) (fun zz => l.length - zz) (0) ?_ (a0e ⟨rfl, rfl, rfl, rfl, trivial⟩ ⟨rfl, trivial⟩ trivial rfl) (fun zz hx => ?_)
 ·exact ⟨Nat.zero_le _, rfl⟩
 obtain ⟨k, rfl⟩ : ∃ v, v = zz := ⟨_, rfl⟩
 replace hx : k ≤ l.length ∧ (l.take k).any (a3w v) = false := hx
 obtain ⟨hk, hall⟩ := hx
 show Ok _ _ _ _ _ (⟨[(0, .one (.dv [] (a0B (l)))), (3, .box 3 0), (7, .one (.dv [] (.int .i64 ((((l)).length : Int))))), (8, .one (.dv [] (.int .i64 ((k : Int)))))], [(3, 97, [(.dv [] (.str (v.1))), (.dv [] (.str (v.2)))])], []⟩ : St)
 iterate 3 refine z ?_
 refine a0q ?_
 refine yQ rfl (fun c1 => ?_) fun c1 => ?_
 ·have d1 := of_decide_eq_true c1
  iterate 8 refine z ?_
  refine a0q ?_
  refine a1M (oB := [3]) (oK := []) (by kernel_rfl) rfl rfl ?_
  refine zD 0 ?_
  refine zD 1 ?_
  refine zD 2 ?_
  refine zD 3 ?_
  refine zD 4 ?_
  refine a2F 5 rfl (by kernel_rfl) rfl rfl (b0x rfl (a0a rfl) (a0a rfl) rfl rfl Tryz.eqGuardType97 (b7e _ _ _ _)) rfl rfl rfl rfl ?_
  refine a1J (by kernel_rfl) ?_
  refine z ?_
  refine yQ rfl (fun c2 => ?_) fun c2 => ?_
  ·iterate 11 refine z ?_
   exact (a6A (p := a3w v) (d := default) hall (by omega) c2).symm
  ·iterate 3 refine z ?_
   refine a0k ?_
   iterate 3 refine z ?_
   refine ⟨k + 1, ?_, ?_, a0e ⟨rfl, rfl, rfl, rfl, trivial⟩ ⟨rfl, trivial⟩ trivial rfl⟩
   ·exact ⟨by omega, a6H (d := default) hall (by omega) c2⟩
   ·omega
 ·have d1 := of_decide_eq_false c1
  iterate 10 refine z ?_
  exact (a6G (p := a3w v) hall (by omega)).symm
theorem c6v {l : List a2V} {v : a2V}  : PFn Tryz.prog 95 [.one (.dv [] (a0B (l))), .agg [(.dv [] (.str (v.1))), (.dv [] (.str (v.2)))]] (.one (.dv [] (.bool (l.any (a3w v))))) := by
 refine ⟨a0v Tryz.func95 rfl Tryz.ntmps95 Tryz.results95 rfl (fun C => ?_)⟩
 refine a0E (x := .tmp 0) (a0a rfl) fun f0 => ?_
 refine yF 1 0 rfl rfl fun f1_0 => ?_
 refine yF 1 1 rfl rfl fun f1_1 => ?_
 iterate 7 refine z ?_
 refine zC Tryz.call125 ?_ (hf := c5X (l := l) (v := v) )
 iterate 5 refine z ?_
 exact c6m l
theorem a9r {x : DbT}  : PFn Tryz.prog 54 [.agg [(.dv [] (.str (x.1))), (.dv [] (.int .i64 (x.2.1))), (.dv [] (a0z (x.2.2.1))), (.dv [] (a0B (x.2.2.2)))]] (.one (.dv [] (.bool (a1V x)))) := by
 refine ⟨a0v Tryz.func54 rfl Tryz.ntmps54 Tryz.results54 rfl (fun C => ?_)⟩
 refine yF 0 0 rfl rfl fun f0_0 => ?_
 refine yF 0 1 rfl rfl fun f0_1 => ?_
 refine yF 0 2 rfl rfl fun f0_2 => ?_
 refine yF 0 3 rfl rfl fun f0_3 => ?_
 iterate 8 refine z ?_
 refine zC Tryz.call91 ?_ (hf := a8p (s := x.1) )
 iterate 4 refine z ?_
 refine a1N (a1A rfl rfl rfl rfl rfl) rfl rfl Tryz.call92 (a6Q (n := x.2.1) (lo := 0) (hi := 1000) ) (fun hg => (a0g (a0C rfl hg) (a0D a0c) (a0g (a0p (a0o rfl)) (a0D a0c) (a0g (a0p (a0o rfl)) (a0D a0c) a0m)))) rfl rfl ?_
 iterate 15 refine z ?_
 refine yQ rfl (fun c1 => ?_) fun c1 => ?_
 ·iterate 6 refine z ?_
  exact (c3j (by have h := c1; unfold a8A; grind)).symm
 ·iterate 10 refine z ?_
  refine a0X (ι := Nat) (fun zz => ⟨[(1, .box 1 0), (34, .one (.dv [] (a0z (x.2.2.1)))), (35, .one (.dv [] (.int .i64 ((((x.2.2.1)).length : Int))))), (36, .one (.dv [] (.int .i64 ((zz : Int)))))], [(1, 33, [(.dv [] (.str (x.1))), (.dv [] (.int .i64 (x.2.1))), (.dv [] (a0z (x.2.2.1))), (.dv [] (a0B (x.2.2.2)))])], []⟩) (fun zz => zz ≤ x.2.2.1.length ∧ (List.range zz).all (fun i => !a5F x i) = true) (fun zz => x.2.2.1.length - zz) (0) ?_ (a0e ⟨rfl, rfl, rfl, rfl, trivial⟩ ⟨rfl, trivial⟩ trivial rfl) (fun zz hx => ?_)
  ·exact ⟨Nat.zero_le _, rfl⟩
  obtain ⟨k, rfl⟩ : ∃ v, v = zz := ⟨_, rfl⟩
  replace hx : k ≤ x.2.2.1.length ∧ (List.range k).all (fun i => !a5F x i) = true := hx
  obtain ⟨hk, hall⟩ := hx
  show Ok _ _ _ _ _ (⟨[(1, .box 1 0), (34, .one (.dv [] (a0z (x.2.2.1)))), (35, .one (.dv [] (.int .i64 ((((x.2.2.1)).length : Int))))), (36, .one (.dv [] (.int .i64 ((k : Int)))))], [(1, 33, [(.dv [] (.str (x.1))), (.dv [] (.int .i64 (x.2.1))), (.dv [] (a0z (x.2.2.1))), (.dv [] (a0B (x.2.2.2)))])], []⟩ : St)
  iterate 3 refine z ?_
  refine a0q ?_
  refine yQ rfl (fun c2 => ?_) fun c2 => ?_
  ·have d2 := of_decide_eq_true c2
   iterate 12 refine z ?_
   refine a0q ?_
   refine a1M (oB := [1, 4]) (oK := []) (by kernel_rfl) rfl rfl ?_
   refine zD 0 ?_
   refine a3D 1 rfl (by kernel_rfl) rfl rfl rfl Tryz.call93 (a7Y (s := (((x.2.2.1)).getD ((k : Int)).toNat default)) ) (a0g (a0a rfl) (a0s (a0d a0c (a0d a0c (a0d a0c a0r)))) a0m) rfl rfl rfl rfl ?_
   refine zD 2 ?_
   refine zD 3 ?_
   refine zDG 4 ?_
   refine zDG 5 ?_
   refine zDG 6 ?_
   refine zDG 7 ?_
   refine zDG 8 ?_
   refine zDG 9 ?_
   refine zDG 10 ?_
   refine zDG 11 ?_
   refine zDG 12 ?_
   refine zDG 13 ?_
   refine zDG 14 ?_
   refine zDG 15 ?_
   refine zDG 16 ?_
   refine zDG 17 ?_
   refine zD 18 ?_
   refine a1J (by kernel_rfl) ?_
   refine z ?_
   refine yQ rfl (fun c3 => ?_) fun c3 => ?_
   ·iterate 10 refine z ?_
    exact (b9Q (k := k) (by omega) c3).symm
   ·iterate 3 refine z ?_
    refine a0k ?_
    iterate 3 refine z ?_
    refine ⟨k + 1, ?_, ?_, a0e ⟨rfl, rfl, rfl, rfl, trivial⟩ ⟨rfl, trivial⟩ trivial rfl⟩
    ·exact ⟨by omega, a6k hall (by have h : a5F x k = false := c3; simpa using h)⟩
    ·omega
  ·have d2 := of_decide_eq_false c2
   obtain rfl : k = x.2.2.1.length := by omega
   have hst : a6J x = true := hall
   clear hall hk
   iterate 13 refine z ?_
   refine a0X (ι := Nat) (fun zz => ⟨[(1, .box 1 0), (62, .one (.dv [] (a0B (x.2.2.2)))), (63, .one (.dv [] (.int .i64 ((((x.2.2.2)).length : Int))))), (64, .one (.dv [] (.int .i64 ((zz : Int)))))], [(1, 33, [(.dv [] (.str (x.1))), (.dv [] (.int .i64 (x.2.1))), (.dv [] (a0z (x.2.2.1))), (.dv [] (a0B (x.2.2.2)))])], []⟩) (fun zz => zz ≤ x.2.2.2.length ∧ (List.range zz).all (fun i => !a3M x i) = true) (fun zz => x.2.2.2.length - zz) (0) ?_ (a0e ⟨rfl, rfl, rfl, rfl, trivial⟩ ⟨rfl, trivial⟩ trivial rfl) (fun zz hx => ?_)
   ·exact ⟨Nat.zero_le _, rfl⟩
   obtain ⟨k, rfl⟩ : ∃ v, v = zz := ⟨_, rfl⟩
   replace hx : k ≤ x.2.2.2.length ∧ (List.range k).all (fun i => !a3M x i) = true := hx
   obtain ⟨hk2, hall2⟩ := hx
   show Ok _ _ _ _ _ (⟨[(1, .box 1 0), (62, .one (.dv [] (a0B (x.2.2.2)))), (63, .one (.dv [] (.int .i64 ((((x.2.2.2)).length : Int))))), (64, .one (.dv [] (.int .i64 ((k : Int)))))], [(1, 33, [(.dv [] (.str (x.1))), (.dv [] (.int .i64 (x.2.1))), (.dv [] (a0z (x.2.2.1))), (.dv [] (a0B (x.2.2.2)))])], []⟩ : St)
   iterate 3 refine z ?_
   refine a0q ?_
   refine yQ rfl (fun c4 => ?_) fun c4 => ?_
   ·have d4 := of_decide_eq_true c4
    iterate 16 refine z ?_
    refine zC Tryz.call94 ?_ (hf := b2y (x := x) (n := (x.2.2.2.getD (k : Int).toNat default).1))
    iterate 2 refine z ?_
    refine a0q ?_
    refine a0q ?_
    refine a1M (oB := [1, 6]) (oK := []) (by kernel_rfl) rfl rfl ?_
    refine zD 0 ?_
    refine zD 1 ?_
    refine zD 2 ?_
    refine zDG 3 ?_
    refine zDG 4 ?_
    refine a4S 5 rfl (by kernel_rfl) (a1A rfl rfl rfl rfl rfl) rfl rfl Tryz.call91 (a8p (s := (((x.2.2.2)).getD ((k : Int)).toNat default).2) ) (fun hg => (a0g (a0C rfl hg) (a0D a0c) a0m)) rfl rfl ?_
    refine zDG 6 ?_
    refine zD 7 ?_
    refine zD 8 ?_
    refine zDG 9 ?_
    refine zDG 10 ?_
    refine zDG 11 ?_
    refine b0g 12 rfl (by kernel_rfl) (a1A rfl rfl rfl rfl rfl) rfl (fun hg => b3V hT rfl rfl rfl (a0C rfl hg) (a0C rfl hg) (fun _ => rfl) (by first | omega | (simp only [Bool.and_eq_true, Bool.or_eq_true, Bool.or_eq_false_iff, Bool.and_eq_false_iff, Bool.not_eq_true', Bool.not_eq_false', beq_iff_eq, decide_eq_true_eq, decide_eq_false_iff_not] at hg; omega) | (have hh := of_decide_eq_true (a4W hg); omega) | (have hh := of_decide_eq_true (a4W (a7M hg)); omega)) (by first | omega | (simp only [Bool.and_eq_true, Bool.or_eq_true, Bool.or_eq_false_iff, Bool.and_eq_false_iff, Bool.not_eq_true', Bool.not_eq_false', beq_iff_eq, decide_eq_true_eq, decide_eq_false_iff_not] at hg; omega) | (have hh := of_decide_eq_true (a4W hg); omega) | (have hh := of_decide_eq_true (a4W (a7M hg)); omega))) rfl rfl rfl rfl ?_
    refine zDG 13 ?_
    refine a4S 14 rfl (by kernel_rfl) (a1A rfl rfl rfl rfl rfl) rfl rfl Tryz.call95 (c6v (l := ((x.2.2.2)).take ((k : Int)).toNat) (v := (((x.2.2.2)).getD ((k : Int)).toNat default)) ) (fun hg => (a0g (a0C rfl hg) (a0D a0c) (a0g (a0C rfl hg) (a0s (a0d a0c (a0d a0c a0r))) a0m))) rfl rfl ?_
    refine zD 15 ?_
    refine a1J (by kernel_rfl) ?_
    refine z ?_
    refine yQ rfl (fun c5 => ?_) fun c5 => ?_
    ·iterate 11 refine z ?_
     exact (a9U (k := k) (by omega) (by have h3 : ((decide (a0u (a0G (x.2.2.2.getD (k : Int).toNat default).1) x.2.2.1 0 < 0) || !a3b (x.2.2.2.getD (k : Int).toNat default).2) || (x.2.2.2.take (k : Int).toNat).any (a3w (x.2.2.2.getD (k : Int).toNat default))) = true := c5; rw [a3M, h3]; rfl)).symm
    ·have hfl : a0u (a0G (x.2.2.2.getD (k : Int).toNat default).1) x.2.2.1 0 < x.2.2.1.length := a8I x (x.2.2.2.getD (k : Int).toNat default).1
     have hf0 : 0 ≤ a0u (a0G (x.2.2.2.getD (k : Int).toNat default).1) x.2.2.1 0 := by have h := c5; simp only [Bool.or_eq_false_iff, decide_eq_false_iff_not] at h; omega
     have hsw := a6Y (a7f hst hf0 hfl)
     iterate 2 refine z ?_
     refine a0q ?_
     refine a1M (oB := [1, 6]) (oK := []) (by kernel_rfl) rfl rfl ?_
     refine zD 0 ?_
     refine zD 1 ?_
     refine zD 2 ?_
     refine zD 3 ?_
     refine zD 4 ?_
     refine zD 5 ?_
     refine zD 6 ?_
     refine a8D (A := [(12, 8, 75, _), (13, 9, 75, _)]) hT ⟨⟨_, _, rfl⟩, rfl, ⟨⟨_, _, rfl⟩, rfl, trivial⟩⟩ ?_
     refine b6C 7 rfl (by kernel_rfl) rfl rfl rfl (vok hT ⟨⟨_, _, rfl⟩, rfl, ⟨⟨_, _, rfl⟩, rfl, trivial⟩⟩ (by kernel_rfl) (by kernel_rfl)) (vok hT ⟨⟨_, _, rfl⟩, rfl, ⟨⟨_, _, rfl⟩, rfl, trivial⟩⟩ (by kernel_rfl) (by kernel_rfl)) rfl Tryz.call96 (c4I (x := (x.2.2.1.getD (a0u (a0G (x.2.2.2.getD (k : Int).toNat default).1) x.2.2.1 0).toNat default)) (f := (x.2.2.2.getD (k : Int).toNat default).2) (by omega)) (a0g (a0a rfl) (a0s (a0d a0c (a0d a0c (a0d a0c a0r)))) (a0g (a0a rfl) (a0D a0c) a0m)) rfl rfl rfl rfl ?_
     refine a8c 8 rfl (by kernel_rfl) rfl rfl rfl (vok hT ⟨⟨_, _, rfl⟩, rfl, ⟨⟨_, _, rfl⟩, rfl, trivial⟩⟩ (by kernel_rfl) (by kernel_rfl)) (vok hT ⟨⟨_, _, rfl⟩, rfl, ⟨⟨_, _, rfl⟩, rfl, trivial⟩⟩ (by kernel_rfl) (by kernel_rfl)) (a2c (.inl rfl) (a0a rfl)) rfl rfl rfl rfl ?_
     refine a3E 9 rfl (by kernel_rfl) rfl rfl rfl rfl (vok hT ⟨⟨_, _, rfl⟩, rfl, ⟨⟨_, _, rfl⟩, rfl, trivial⟩⟩ (by kernel_rfl) (by kernel_rfl)) (vok hT ⟨⟨_, _, rfl⟩, rfl, ⟨⟨_, _, rfl⟩, rfl, trivial⟩⟩ (by kernel_rfl) (by kernel_rfl)) (a5N rfl (a0a rfl) rfl) rfl rfl ?_
     refine a3E 10 rfl (by kernel_rfl) rfl rfl rfl rfl (vok hT ⟨⟨_, _, rfl⟩, rfl, ⟨⟨_, _, rfl⟩, rfl, trivial⟩⟩ (by kernel_rfl) (by kernel_rfl)) (vok hT ⟨⟨_, _, rfl⟩, rfl, ⟨⟨_, _, rfl⟩, rfl, trivial⟩⟩ (by kernel_rfl) (by kernel_rfl)) (a5N rfl (a0a rfl) rfl) rfl rfl ?_
     refine a3E 11 rfl (by kernel_rfl) rfl rfl rfl rfl (vok hT ⟨⟨_, _, rfl⟩, rfl, ⟨⟨_, _, rfl⟩, rfl, trivial⟩⟩ (by kernel_rfl) (by kernel_rfl)) (vok hT ⟨⟨_, _, rfl⟩, rfl, ⟨⟨_, _, rfl⟩, rfl, trivial⟩⟩ (by kernel_rfl) (by kernel_rfl)) (a5k rfl (a0a rfl) rfl) rfl rfl ?_
     refine a8v (vok hT ⟨⟨_, _, rfl⟩, rfl, ⟨⟨_, _, rfl⟩, rfl, trivial⟩⟩ (by kernel_rfl) (by kernel_rfl)) rfl rfl (by kernel_rfl) ?_
     dsimp only [a3K, a3G]
     refine a4d [14, 15, 16] rfl rfl (by kernel_rfl) ?_
     iterate 7 refine z ?_
     refine yQ rfl (fun c6 => ?_) fun c6 => ?_
     ·iterate 10 refine z ?_
      exact (a9U (k := k) (by omega) (by have h2 : a9Z x (x.2.2.2.getD (k : Int).toNat default) = true := c6; rw [a3M, h2]; simp)).symm
     ·iterate 3 refine z ?_
      refine a0k ?_
      iterate 3 refine z ?_
      refine ⟨k + 1, ?_, ?_, a0e ⟨rfl, rfl, rfl, rfl, trivial⟩ ⟨rfl, trivial⟩ trivial rfl⟩
      ·exact ⟨by omega, a6k hall2 (by have h1 := c5; have h2 : a9Z x (x.2.2.2.getD (k : Int).toNat default) = false := c6; show (!a3M x k) = true; rw [a3M, h2]; have h3 : ((decide (a0u (a0G (x.2.2.2.getD (k : Int).toNat default).1) x.2.2.1 0 < 0) || !a3b (x.2.2.2.getD (k : Int).toNat default).2) || (x.2.2.2.take (k : Int).toNat).any (a3w (x.2.2.2.getD (k : Int).toNat default))) = false := h1; rw [h3]; rfl)⟩
      ·omega
   ·have d4 := of_decide_eq_false c4
    iterate 10 refine z ?_
    obtain rfl : k = x.2.2.2.length := by omega
    rw [b8F hst hall2]; have h := c1; unfold a8A; grind
theorem b2I {x : DbT}  : PFn Tryz.prog 42 [.agg [(.dv [] (.str (x.1))), (.dv [] (.int .i64 (x.2.1))), (.dv [] (a0z (x.2.2.1))), (.dv [] (a0B (x.2.2.2)))]] (.one (.dv [] (.bool (a1V x)))) := by
 refine ⟨a0v Tryz.func42 rfl Tryz.ntmps42 Tryz.results42 rfl (fun C => ?_)⟩
 refine yF 0 0 rfl rfl fun f0_0 => ?_
 refine yF 0 1 rfl rfl fun f0_1 => ?_
 refine yF 0 2 rfl rfl fun f0_2 => ?_
 refine yF 0 3 rfl rfl fun f0_3 => ?_
 iterate 9 refine z ?_
 refine a0X (ι := Nat) (fun zz => ⟨[(1, .box 1 0), (3, .one (.dv [] (.int .i64 ((zz : Int)))))], [(1, 33, [(.dv [] (.str (x.1))), (.dv [] (.int .i64 (x.2.1))), (.dv [] (a0z (x.2.2.1))), (.dv [] (a0B (x.2.2.2)))])], []⟩) (fun zz => zz ≤ x.2.2.1.length ∧ (List.range zz).all (fun i => !a5F x i) = true) (fun zz => x.2.2.1.length - zz) (0) ?_ (a0e ⟨rfl, rfl, trivial⟩ ⟨rfl, trivial⟩ trivial rfl) (fun zz hx => ?_)
 ·exact ⟨Nat.zero_le _, rfl⟩
 obtain ⟨k, rfl⟩ : ∃ v, v = zz := ⟨_, rfl⟩
 replace hx : k ≤ x.2.2.1.length ∧ (List.range k).all (fun i => !a5F x i) = true := hx
 obtain ⟨hk, hall⟩ := hx
 show Ok _ _ _ _ _ (⟨[(1, .box 1 0), (3, .one (.dv [] (.int .i64 ((k : Int)))))], [(1, 33, [(.dv [] (.str (x.1))), (.dv [] (.int .i64 (x.2.1))), (.dv [] (a0z (x.2.2.1))), (.dv [] (a0B (x.2.2.2)))])], []⟩ : St)
 iterate 8 refine z ?_
 refine yQ rfl (fun c1 => ?_) fun c1 => ?_
 ·have d1 := of_decide_eq_true c1
  iterate 4 refine z ?_
  refine a0q ?_
  refine a1M (oB := [1]) (oK := []) (by kernel_rfl) rfl rfl ?_
  refine zD 0 ?_
  refine zD 1 ?_
  refine zD 2 ?_
  refine zD 3 ?_
  refine zD 4 ?_
  refine a3D 5 rfl (by kernel_rfl) rfl rfl rfl Tryz.call73 (b2z (s := (((x.2.2.1)).getD ((k : Int)).toNat default)) ) (a0g (a0a rfl) (a0s (a0d a0c (a0d a0c (a0d a0c a0r)))) a0m) rfl rfl rfl rfl ?_
  refine zD 6 ?_
  refine zD 7 ?_
  refine zDG 8 ?_
  refine zDG 9 ?_
  refine zDG 10 ?_
  refine zDG 11 ?_
  refine zDG 12 ?_
  refine zDG 13 ?_
  refine zDG 14 ?_
  refine zDG 15 ?_
  refine zDG 16 ?_
  refine zDG 17 ?_
  refine zDG 18 ?_
  refine zDG 19 ?_
  refine zDG 20 ?_
  refine zDG 21 ?_
  refine zDG 22 ?_
  refine zDG 23 ?_
  refine zDG 24 ?_
  refine zDG 25 ?_
  refine zD 26 ?_
  refine a1J (by kernel_rfl) ?_
  refine z ?_
  refine yQ rfl (fun c2 => ?_) fun c2 => ?_
  ·iterate 10 refine z ?_
   exact (b9Q (k := k) (by omega) (by rw [← b9m]; exact c2)).symm
  ·iterate 3 refine z ?_
   refine a0k ?_
   iterate 4 refine z ?_
   refine ⟨k + 1, ?_, ?_, a0e ⟨rfl, rfl, trivial⟩ ⟨rfl, trivial⟩ trivial rfl⟩
   ·exact ⟨by omega, a6k hall (by have h : b3k x k = false := c2; rw [b9m] at h; simpa using h)⟩
   ·omega
 ·have d1 := of_decide_eq_false c1
  obtain rfl : k = x.2.2.1.length := by omega
  have hst : a6J x = true := hall
  clear hall hk
  iterate 10 refine z ?_
  refine a0X (ι := Nat) (fun zz => ⟨[(1, .box 1 0), (4, .one (.dv [] (.int .i64 ((zz : Int)))))], [(1, 33, [(.dv [] (.str (x.1))), (.dv [] (.int .i64 (x.2.1))), (.dv [] (a0z (x.2.2.1))), (.dv [] (a0B (x.2.2.2)))])], []⟩) (fun zz => zz ≤ x.2.2.2.length ∧ (List.range zz).all (fun i => !a3M x i) = true) (fun zz => x.2.2.2.length - zz) (0) ?_ (a0e ⟨rfl, rfl, trivial⟩ ⟨rfl, trivial⟩ trivial rfl) (fun zz hx => ?_)
  ·exact ⟨Nat.zero_le _, rfl⟩
  obtain ⟨k, rfl⟩ : ∃ v, v = zz := ⟨_, rfl⟩
  replace hx : k ≤ x.2.2.2.length ∧ (List.range k).all (fun i => !a3M x i) = true := hx
  obtain ⟨hk2, hall2⟩ := hx
  show Ok _ _ _ _ _ (⟨[(1, .box 1 0), (4, .one (.dv [] (.int .i64 ((k : Int)))))], [(1, 33, [(.dv [] (.str (x.1))), (.dv [] (.int .i64 (x.2.1))), (.dv [] (a0z (x.2.2.1))), (.dv [] (a0B (x.2.2.2)))])], []⟩ : St)
  iterate 8 refine z ?_
  refine yQ rfl (fun c3 => ?_) fun c3 => ?_
  ·have d3 := of_decide_eq_true c3
   iterate 4 refine z ?_
   refine a0q ?_
   refine a1M (oB := [1]) (oK := []) (by kernel_rfl) rfl rfl ?_
   refine zD 0 ?_
   refine zD 1 ?_
   refine zD 2 ?_
   refine zD 3 ?_
   refine zD 4 ?_
   refine zD 5 ?_
   refine zD 6 ?_
   refine a3D 7 rfl (by kernel_rfl) rfl rfl rfl Tryz.call74 (b5y (x := x) (n := (x.2.2.2.getD (k : Int).toNat default).1)) (a0g (a0a rfl) (a0s (a0d a0c (a0d a0c (a0d a0c (a0d a0c a0r))))) (a0g (a0a rfl) (a0D a0c) a0m)) rfl rfl rfl rfl ?_
   refine zD 8 ?_
   refine a1J (by kernel_rfl) ?_
   iterate 12 refine z ?_
   refine a1N (a1A rfl rfl rfl rfl rfl) rfl rfl Tryz.call75 (a8H (s := (((x.2.2.2)).getD ((k : Int)).toNat default).2) ) (fun hg => (a0g (a0C rfl hg) (a0D a0c) a0m)) rfl rfl ?_
   iterate 3 refine z ?_
   refine yQ rfl (fun c4 => ?_) fun c4 => ?_
   ·iterate 11 refine z ?_
    exact (a9U (k := k) (by omega) (by have h3 : (decide (a0u (a0G (x.2.2.2.getD (k : Int).toNat default).1) x.2.2.1 0 < 0) || !a3b (x.2.2.2.getD (k : Int).toNat default).2) = true := c4; rw [a3M, h3]; rfl)).symm
   ·have hfl : a0u (a0G (x.2.2.2.getD (k : Int).toNat default).1) x.2.2.1 0 < x.2.2.1.length := a8I x (x.2.2.2.getD (k : Int).toNat default).1
    have hf0 : 0 ≤ a0u (a0G (x.2.2.2.getD (k : Int).toNat default).1) x.2.2.1 0 := by have h := c4; simp only [Bool.or_eq_false_iff, decide_eq_false_iff_not] at h; omega
    have hsw := a6Y (a7f hst hf0 hfl)
    iterate 2 refine z ?_
    refine a0q ?_
    refine a0q ?_
    refine a1M (oB := [1]) (oK := []) (by kernel_rfl) rfl rfl ?_
    refine zD 0 ?_
    refine zD 1 ?_
    refine zD 2 ?_
    refine zD 3 ?_
    refine zD 4 ?_
    refine zD 5 ?_
    refine zD 6 ?_
    refine zD 7 ?_
    refine zD 8 ?_
    refine zD 9 ?_
    refine zD 10 ?_
    refine a8D (A := [(16, 6, 75, _), (17, 7, 75, _)]) hT ⟨⟨_, _, rfl⟩, rfl, ⟨⟨_, _, rfl⟩, rfl, trivial⟩⟩ ?_
    refine b6C 11 rfl (by kernel_rfl) rfl rfl rfl (vok hT ⟨⟨_, _, rfl⟩, rfl, ⟨⟨_, _, rfl⟩, rfl, trivial⟩⟩ (by kernel_rfl) (by kernel_rfl)) (vok hT ⟨⟨_, _, rfl⟩, rfl, ⟨⟨_, _, rfl⟩, rfl, trivial⟩⟩ (by kernel_rfl) (by kernel_rfl)) rfl Tryz.call76 (c3I (x := (x.2.2.1.getD (a0u (a0G (x.2.2.2.getD (k : Int).toNat default).1) x.2.2.1 0).toNat default)) (f := (x.2.2.2.getD (k : Int).toNat default).2) (by omega)) (a0g (a0a rfl) (a0s (a0d a0c (a0d a0c (a0d a0c a0r)))) (a0g (a0a rfl) (a0D a0c) a0m)) rfl rfl rfl rfl ?_
    refine a8c 12 rfl (by kernel_rfl) rfl rfl rfl (vok hT ⟨⟨_, _, rfl⟩, rfl, ⟨⟨_, _, rfl⟩, rfl, trivial⟩⟩ (by kernel_rfl) (by kernel_rfl)) (vok hT ⟨⟨_, _, rfl⟩, rfl, ⟨⟨_, _, rfl⟩, rfl, trivial⟩⟩ (by kernel_rfl) (by kernel_rfl)) (a2c (.inl rfl) (a0a rfl)) rfl rfl rfl rfl ?_
    refine a3E 13 rfl (by kernel_rfl) rfl rfl rfl rfl (vok hT ⟨⟨_, _, rfl⟩, rfl, ⟨⟨_, _, rfl⟩, rfl, trivial⟩⟩ (by kernel_rfl) (by kernel_rfl)) (vok hT ⟨⟨_, _, rfl⟩, rfl, ⟨⟨_, _, rfl⟩, rfl, trivial⟩⟩ (by kernel_rfl) (by kernel_rfl)) (a5N rfl (a0a rfl) rfl) rfl rfl ?_
    refine a3E 14 rfl (by kernel_rfl) rfl rfl rfl rfl (vok hT ⟨⟨_, _, rfl⟩, rfl, ⟨⟨_, _, rfl⟩, rfl, trivial⟩⟩ (by kernel_rfl) (by kernel_rfl)) (vok hT ⟨⟨_, _, rfl⟩, rfl, ⟨⟨_, _, rfl⟩, rfl, trivial⟩⟩ (by kernel_rfl) (by kernel_rfl)) (a5N rfl (a0a rfl) rfl) rfl rfl ?_
    refine a3E 15 rfl (by kernel_rfl) rfl rfl rfl rfl (vok hT ⟨⟨_, _, rfl⟩, rfl, ⟨⟨_, _, rfl⟩, rfl, trivial⟩⟩ (by kernel_rfl) (by kernel_rfl)) (vok hT ⟨⟨_, _, rfl⟩, rfl, ⟨⟨_, _, rfl⟩, rfl, trivial⟩⟩ (by kernel_rfl) (by kernel_rfl)) (a5k rfl (a0a rfl) rfl) rfl rfl ?_
    refine a8v (vok hT ⟨⟨_, _, rfl⟩, rfl, ⟨⟨_, _, rfl⟩, rfl, trivial⟩⟩ (by kernel_rfl) (by kernel_rfl)) rfl rfl (by kernel_rfl) ?_
    dsimp only [a3K, a3G]
    refine a4d [18, 19, 20] rfl rfl (by kernel_rfl) ?_
    iterate 7 refine z ?_
    refine yQ rfl (fun c5 => ?_) fun c5 => ?_
    ·iterate 11 refine z ?_
     exact (a9U (k := k) (by omega) (by have h2 : a9Z x (x.2.2.2.getD (k : Int).toNat default) = true := c5; rw [a3M, h2]; simp)).symm
    ·iterate 6 refine z ?_
     refine a0X (ι := Nat) (fun zz => ⟨[(1, .box 1 0), (4, .one (.dv [] (.int .i64 ((k : Int))))), (9, .one (.dv [] (.int .i64 ((zz : Int)))))], [(1, 33, [(.dv [] (.str (x.1))), (.dv [] (.int .i64 (x.2.1))), (.dv [] (a0z (x.2.2.1))), (.dv [] (a0B (x.2.2.2)))])], []⟩) (fun zz => zz ≤ k ∧ (x.2.2.2.take zz).any (a3w (x.2.2.2.getD (k : Int).toNat default)) = false) (fun zz => k - zz) (0) ?_ (a0e ⟨rfl, rfl, rfl, trivial⟩ ⟨rfl, trivial⟩ trivial rfl) (fun zz hx => ?_)
     ·exact ⟨Nat.zero_le _, rfl⟩
     obtain ⟨j, rfl⟩ : ∃ v, v = zz := ⟨_, rfl⟩
     replace hx : j ≤ k ∧ (x.2.2.2.take j).any (a3w (x.2.2.2.getD (k : Int).toNat default)) = false := hx
     obtain ⟨hj, hall3⟩ := hx
     show Ok _ _ _ _ _ (⟨[(1, .box 1 0), (4, .one (.dv [] (.int .i64 ((k : Int))))), (9, .one (.dv [] (.int .i64 ((j : Int)))))], [(1, 33, [(.dv [] (.str (x.1))), (.dv [] (.int .i64 (x.2.1))), (.dv [] (a0z (x.2.2.1))), (.dv [] (a0B (x.2.2.2)))])], []⟩ : St)
     iterate 6 refine z ?_
     refine yQ rfl (fun c6 => ?_) fun c6 => ?_
     ·have d6 := of_decide_eq_true c6
      iterate 4 refine z ?_
      refine a0q ?_
      refine a1M (oB := [1]) (oK := []) (by kernel_rfl) rfl rfl ?_
      refine zD 0 ?_
      refine zD 1 ?_
      refine zD 2 ?_
      refine zD 3 ?_
      refine zD 4 ?_
      refine zD 5 ?_
      refine zD 6 ?_
      refine zD 7 ?_
      refine zD 8 ?_
      refine zD 9 ?_
      refine a2F 10 rfl (by kernel_rfl) rfl rfl (b0x rfl (a0a rfl) (a0a rfl) rfl rfl Tryz.eqGuardType97 (b7e _ _ _ _)) rfl rfl rfl rfl ?_
      refine a1J (by kernel_rfl) ?_
      refine z ?_
      refine yQ rfl (fun c7 => ?_) fun c7 => ?_
      ·iterate 14 refine z ?_
       exact (a9U (k := k) (by omega) (c0I (j := j) (by omega) (by omega) c7)).symm
      ·iterate 3 refine z ?_
       refine a0k ?_
       iterate 4 refine z ?_
       refine ⟨j + 1, ?_, ?_, a0e ⟨rfl, rfl, rfl, trivial⟩ ⟨rfl, trivial⟩ trivial rfl⟩
       ·exact ⟨by omega, c8i (d := default) hall3 (by omega) (by rw [b9F]; exact c7)⟩
       ·omega
     ·have d6 := of_decide_eq_false c6
      iterate 6 refine z ?_
      refine a0k ?_
      iterate 4 refine z ?_
      refine ⟨k + 1, ?_, ?_, a0e ⟨rfl, rfl, trivial⟩ ⟨rfl, trivial⟩ trivial rfl⟩
      ·exact ⟨by omega, a6k hall2 (c0G (j := j) (by omega) c4 hall3 c5)⟩
      ·omega
  ·have d3 := of_decide_eq_false c3
   iterate 8 refine z ?_
   refine zC Tryz.call75 ?_ (hf := a8H (s := x.1) )
   iterate 3 refine z ?_
   refine a1N (a1A rfl rfl rfl rfl rfl) rfl rfl Tryz.call77 (a5U (n := x.2.1) (lo := 0) (hi := 1000) ) (fun hg => (a0g (a0C rfl hg) (a0D a0c) (a0g (a0p (a0o rfl)) (a0D a0c) (a0g (a0p (a0o rfl)) (a0D a0c) a0m)))) rfl rfl ?_
   iterate 17 refine z ?_
   obtain rfl : k = x.2.2.2.length := by omega
   rw [b8F hst hall2]; rfl
theorem b0M {α : Type} [Inhabited α] {enc : α → List DV} {xs : List α} {k : Nat} (hk : k < xs.length) : (xs.take k).flatMap enc ++ enc (xs.getD (k : Int).toNat default) = (xs.take (k + 1)).flatMap enc ∧ (xs.take k).length + 1 = (xs.take (k + 1)).length := by
 have e : xs.getD (k : Int).toNat default = xs[k] := by simp [List.getD, List.getElem?_eq_getElem hk]
 rw [List.take_add_one, List.getElem?_eq_getElem hk, e]
 simp only [Option.toList_some, List.flatMap_append, List.flatMap_cons, List.flatMap_nil, List.append_nil, List.length_append, List.length_singleton]
 exact ⟨trivial, trivial⟩
theorem a7B {x : DbT} (hb : a0Z x ≤ 1099511627776) : KFn Tryz.prog 21 [.agg [(.dv [] (.str (x.1))), (.dv [] (.int .i64 (x.2.1))), (.dv [] (a0z (x.2.2.1))), (.dv [] (a0B (x.2.2.2)))]] (.agg [(.dv [] (.str (x.1))), (.dv [] (.int .i64 (x.2.1))), (.key 31), (.key 900)]) [(31, some (a0b false (a0z (x.2.2.1)))), (900, some (a0b false (a0B (x.2.2.2))))] := by
 refine ⟨a0v Tryz.func21 rfl Tryz.ntmps21 Tryz.results21 rfl (fun C => ?_)⟩
 have hwd : a0Z x = x.1.size + a1c a0T x.2.2.1 + a1c a1s x.2.2.2 := rfl
 have hwl : a1c a0T x.2.2.1 = x.2.2.1.length + wSum a0T x.2.2.1 := rfl
 have hwi : a1c a1s x.2.2.2 = x.2.2.2.length + wSum a1s x.2.2.2 := rfl
 refine yF 0 0 rfl rfl fun f0_0 => ?_
 refine yF 0 1 rfl rfl fun f0_1 => ?_
 refine yF 0 2 rfl rfl fun f0_2 => ?_
 refine yF 0 3 rfl rfl fun f0_3 => ?_
 iterate 4 refine z ?_
 refine a5O (σ' := ⟨[(1, .box 1 0), (2, .box 2 0), (3, .box 3 0)], [(1, 33, [(.dv [] (.str (x.1))), (.dv [] (.int .i64 (x.2.1))), (.dv [] (a0z (x.2.2.1))), (.dv [] (a0B (x.2.2.2)))]), (2, 33, [(.dv [] (.str (ByteArray.empty))), (.dv [] (.int .i64 (0))), .nil, .nil]), (3, 33, [(.dv [] (.str (x.1))), (.dv [] (.int .i64 (x.2.1))), .nil, (.key 900)])], [(900, some (a0b false (.sl 97 2 ((x.2.2.2).length) ((x.2.2.2).flatMap a1O))))]⟩) ?_ ?_
 ·refine a5I [0, 1, 2, 3, 4, 5, 6, 7, 8, 9] (oB := [1, 2]) (oK := []) (by kernel_rfl) rfl rfl ?_
  refine b4e ?_
  refine zN 0 ?_
  refine zN 1 ?_
  refine zN 2 ?_
  refine zN 3 ?_
  refine zN 5 ?_
  refine zN 6 ?_
  refine a2e 4 [9] (by kernel_rfl) ⟨?_, ?_, trivial⟩
  ·refine a8W (k := 900) 4 hT rfl rfl rfl rfl rfl rfl rfl rfl rfl rfl rfl rfl ?_
   refine a2e 7 [9] (by kernel_rfl) ⟨?_, ?_, trivial⟩
   ·refine a4c (k := 900) (cs := (x.2.2.2).flatMap a1O) (n := (x.2.2.2).length) 7 hT rfl rfl rfl rfl rfl rfl rfl rfl (a0a rfl) rfl rfl rfl (a0a rfl) (a3r (fun _ => rfl) _) (by first | (dsimp only [a0b]; omega) | omega) (by first | (dsimp only [a0b]; omega) | omega) (Nat.zero_add _) (rfl) rfl rfl ?_
    simp only [a0l, a0j, SV.kill, CV.kill, kk, Nat.reduceBEq]
    refine a5x 8 rfl (by kernel_rfl) rfl rfl (a1x hT hB rfl rfl rfl (a1r (a0a rfl) rfl rfl rfl rfl rfl (a1r (a0a rfl) rfl rfl rfl rfl rfl (a1r (a0a rfl) rfl rfl rfl rfl rfl a1w)))) rfl rfl rfl rfl ?_
    refine a2e 9 [] (by kernel_rfl) ⟨?_, trivial⟩
    ·refine a8N 9 hT rfl rfl rfl rfl rfl rfl rfl rfl rfl rfl ?_
     refine a2e 10 [] (by kernel_rfl) ⟨?_, trivial⟩
     ·refine a5V 10 rfl rfl (by kernel_rfl) (a4V hT rfl rfl rfl (a0a rfl) (a0a rfl) rfl rfl rfl rfl rfl rfl) (by kernel_rfl) ?_
      exact a2p (a0e ⟨rfl, rfl, rfl, trivial⟩ ⟨rfl, rfl, rfl, trivial⟩ ⟨rfl, trivial⟩ rfl)
   ·refine a8N 9 hT rfl rfl rfl rfl rfl rfl rfl rfl rfl rfl ?_
    refine a2e 7 [] (by kernel_rfl) ⟨?_, trivial⟩
    ·refine a4c (k := 900) (cs := (x.2.2.2).flatMap a1O) (n := (x.2.2.2).length) 7 hT rfl rfl rfl rfl rfl rfl rfl rfl (a0a rfl) rfl rfl rfl (a0a rfl) (a3r (fun _ => rfl) _) (by first | (dsimp only [a0b]; omega) | omega) (by first | (dsimp only [a0b]; omega) | omega) (Nat.zero_add _) (rfl) rfl rfl ?_
     simp only [a0l, a0j, SV.kill, CV.kill, kk, Nat.reduceBEq]
     refine a5x 8 rfl (by kernel_rfl) rfl rfl (a1x hT hB rfl rfl rfl (a1r (a0a rfl) rfl rfl rfl rfl rfl (a1r (a0a rfl) rfl rfl rfl rfl rfl (a1r (a0a rfl) rfl rfl rfl rfl rfl a1w)))) rfl rfl rfl rfl ?_
     refine a2e 10 [] (by kernel_rfl) ⟨?_, trivial⟩
     ·refine a5V 10 rfl rfl (by kernel_rfl) (a4V hT rfl rfl rfl (a0a rfl) (a0a rfl) rfl rfl rfl rfl rfl rfl) (by kernel_rfl) ?_
      exact a2p (a0e ⟨rfl, rfl, rfl, trivial⟩ ⟨rfl, rfl, rfl, trivial⟩ ⟨rfl, trivial⟩ rfl)
  ·refine a8N 9 hT rfl rfl rfl rfl rfl rfl rfl rfl rfl rfl ?_
   refine a2e 4 [] (by kernel_rfl) ⟨?_, trivial⟩
   ·refine a8W (k := 900) 4 hT rfl rfl rfl rfl rfl rfl rfl rfl rfl rfl rfl rfl ?_
    refine a2e 7 [] (by kernel_rfl) ⟨?_, trivial⟩
    ·refine a4c (k := 900) (cs := (x.2.2.2).flatMap a1O) (n := (x.2.2.2).length) 7 hT rfl rfl rfl rfl rfl rfl rfl rfl (a0a rfl) rfl rfl rfl (a0a rfl) (a3r (fun _ => rfl) _) (by first | (dsimp only [a0b]; omega) | omega) (by first | (dsimp only [a0b]; omega) | omega) (Nat.zero_add _) (rfl) rfl rfl ?_
     simp only [a0l, a0j, SV.kill, CV.kill, kk, Nat.reduceBEq]
     refine a5x 8 rfl (by kernel_rfl) rfl rfl (a1x hT hB rfl rfl rfl (a1r (a0a rfl) rfl rfl rfl rfl rfl (a1r (a0a rfl) rfl rfl rfl rfl rfl (a1r (a0a rfl) rfl rfl rfl rfl rfl a1w)))) rfl rfl rfl rfl ?_
     refine a2e 10 [] (by kernel_rfl) ⟨?_, trivial⟩
     ·refine a5V 10 rfl rfl (by kernel_rfl) (a4V hT rfl rfl rfl (a0a rfl) (a0a rfl) rfl rfl rfl rfl rfl rfl) (by kernel_rfl) ?_
      exact a2p (a0e ⟨rfl, rfl, rfl, trivial⟩ ⟨rfl, rfl, rfl, trivial⟩ ⟨rfl, trivial⟩ rfl)
 refine a0q ?_
 refine a0q ?_
 refine a0h (a4h 31 (b := 3) (i := 2) (e := 67) (sz := 3) rfl rfl rfl rfl rfl) ?_
 simp only [a0l, a0j, SV.kill, CV.kill, kk, Nat.reduceBEq]
 refine a0k ?_
 iterate 6 refine z ?_
 refine a0X (ι := Nat) (fun zz => ⟨[(2, .box 2 0), (3, .box 3 0), (16, .one (.dv [] (a0z (x.2.2.1)))), (17, .one (.dv [] (.int .i64 ((((x.2.2.1)).length : Int))))), (18, .one (.dv [] (.int .i64 ((zz : Int)))))], [(1, 33, [(.dv [] (.str (x.1))), (.dv [] (.int .i64 (x.2.1))), (.dv [] (a0z (x.2.2.1))), (.dv [] (a0B (x.2.2.2)))]), (2, 33, [(.dv [] (.str (ByteArray.empty))), (.dv [] (.int .i64 (0))), .nil, .nil]), (3, 33, [(.dv [] (.str (x.1))), (.dv [] (.int .i64 (x.2.1))), (.key 31), (.key 900)])], [(31, some (a0b false (.sl 67 3 ((x.2.2.1.take zz).length) ((x.2.2.1.take zz).flatMap a1n)))), (900, some (a0b false (.sl 97 2 ((x.2.2.2).length) ((x.2.2.2).flatMap a1O))))]⟩) (fun zz => zz ≤ x.2.2.1.length) (fun zz => x.2.2.1.length - zz) (0) ?_ (a0e ⟨rfl, rfl, rfl, rfl, rfl, trivial⟩ ⟨rfl, rfl, rfl, trivial⟩ ⟨rfl, rfl, trivial⟩ rfl) (fun zz hx => ?_)
 ·exact Nat.zero_le _
 obtain ⟨k, rfl⟩ : ∃ v, v = zz := ⟨_, rfl⟩
 replace hx : k ≤ x.2.2.1.length := hx
 have hw := fun h => a2T a0T x.2.2.1 k h
 show Ok _ _ _ _ _ (⟨[(2, .box 2 0), (3, .box 3 0), (16, .one (.dv [] (a0z (x.2.2.1)))), (17, .one (.dv [] (.int .i64 ((((x.2.2.1)).length : Int))))), (18, .one (.dv [] (.int .i64 ((k : Int)))))], [(1, 33, [(.dv [] (.str (x.1))), (.dv [] (.int .i64 (x.2.1))), (.dv [] (a0z (x.2.2.1))), (.dv [] (a0B (x.2.2.2)))]), (2, 33, [(.dv [] (.str (ByteArray.empty))), (.dv [] (.int .i64 (0))), .nil, .nil]), (3, 33, [(.dv [] (.str (x.1))), (.dv [] (.int .i64 (x.2.1))), (.key 31), (.key 900)])], [(31, some (a0b false (.sl 67 3 ((x.2.2.1.take k).length) ((x.2.2.1.take k).flatMap a1n)))), (900, some (a0b false (.sl 97 2 ((x.2.2.2).length) ((x.2.2.2).flatMap a1O))))]⟩ : St)
 iterate 3 refine z ?_
 refine a0q ?_
 refine yQ rfl (fun c1 => ?_) fun c1 => ?_
 ·have d1 := of_decide_eq_true c1
  have hk2 : k < x.2.2.1.length := by omega
  obtain ⟨hw1, hw2⟩ := hw hk2
  iterate 10 refine z ?_
  refine a5I [0, 1, 2, 3, 4] (oB := [1, 2, 3, 5]) (oK := [31, 900]) (by kernel_rfl) rfl rfl ?_
  refine zD 0 ?_
  refine zD 1 ?_
  refine zD 2 ?_
  refine a2j 25000 3 rfl (by kernel_rfl) rfl rfl rfl Tryz.call46 (a6x (x := (((x.2.2.1)).getD ((k : Int)).toNat default)) (by omega)) (a0g (a0a rfl) (a0s (a0d a0c (a0d a0c (a0d a0c a0r)))) a0m) rfl rfl rfl rfl rfl ?_
  refine a7c (k := 26) (js := [25030]) 4 hT rfl (by kernel_rfl) rfl rfl rfl rfl rfl rfl rfl rfl rfl (a0a rfl) rfl rfl (a0t (a0W rfl) (a0t (a1i rfl) (a0t (a0W rfl) a1m rfl) rfl) rfl) (by decide) (by decide) rfl rfl (by decide) ?_
  simp only [a0l, a0j, SV.kill, CV.kill, kk, Nat.reduceBEq]
  refine a4d [5, 6, 7] rfl rfl (by kernel_rfl) ?_
  refine a3l (k := 31) (j := 26) (cs := (x.2.2.1.take (k + 1)).flatMap a1n) (n := (x.2.2.1.take (k + 1)).length) hT rfl rfl rfl rfl rfl rfl rfl (a0a rfl) rfl rfl rfl (a0a rfl) rfl rfl (by decide) (by dsimp only [a0b]; simp only [List.length_take]; omega) (by dsimp only [a0b]; simp only [List.length_take]; omega) ((b0M (enc := a1n) hk2).2) ((b0M (enc := a1n) hk2).1) ?_
  simp only [a0l, a0j, SV.kill, CV.kill, kk, Nat.reduceBEq]
  iterate 2 refine z ?_
  refine a1t ?_
  iterate 2 refine z ?_
  refine a0k ?_
  iterate 3 refine z ?_
  refine ⟨k + 1, ?_, ?_, a0e ⟨rfl, rfl, rfl, rfl, rfl, trivial⟩ ⟨rfl, rfl, rfl, trivial⟩ ⟨rfl, rfl, trivial⟩ rfl⟩
  ·omega
  ·omega
 ·have d1 := of_decide_eq_false c1
  iterate 9 refine z ?_
  refine a0h (σ' := ⟨[(2, .box 2 0)], [(2, 33, [(.dv [] (.str (x.1))), (.dv [] (.int .i64 (x.2.1))), (.key 31), (.key 900)])], [(31, some (a0b false (a0z (x.2.2.1)))), (900, some (a0b false (a0B (x.2.2.2))))]⟩) (a0e ⟨rfl, trivial⟩ ⟨rfl, trivial⟩ ⟨(congrArg (fun l : List (a0P) => some (some (KC.mk false 67 3 l.length (l.flatMap a1n)))) (List.take_of_length_le (by omega))), rfl, trivial⟩ rfl) ?_
  refine z ?_
  refine a1p (a0F hT rfl rfl rfl rfl) ?_
  exact ⟨rfl, rfl⟩
theorem a9z {x : DbT} (hb : a0Z x ≤ 1099511627776) : KFn Tryz.prog 15 [.agg [(.dv [] (.str (x.1))), (.dv [] (.int .i64 (x.2.1))), (.dv [] (a0z (x.2.2.1))), (.dv [] (a0B (x.2.2.2)))]] (.agg [(.dv [] (.str (x.1))), (.dv [] (.int .i64 (x.2.1))), (.key 31), (.key 900)]) [(31, some (a0b false (a0z (x.2.2.1)))), (900, some (a0b false (a0B (x.2.2.2))))] := by
 refine ⟨a0v Tryz.func15 rfl Tryz.ntmps15 Tryz.results15 rfl (fun C => ?_)⟩
 have hwd : a0Z x = x.1.size + a1c a0T x.2.2.1 + a1c a1s x.2.2.2 := rfl
 have hwl : a1c a0T x.2.2.1 = x.2.2.1.length + wSum a0T x.2.2.1 := rfl
 have hwi : a1c a1s x.2.2.2 = x.2.2.2.length + wSum a1s x.2.2.2 := rfl
 refine yF 0 0 rfl rfl fun f0_0 => ?_
 refine yF 0 1 rfl rfl fun f0_1 => ?_
 refine yF 0 2 rfl rfl fun f0_2 => ?_
 refine yF 0 3 rfl rfl fun f0_3 => ?_
 iterate 4 refine z ?_
 refine a5O (σ' := ⟨[(1, .box 1 0), (2, .box 2 0), (3, .box 3 0)], [(1, 33, [(.dv [] (.str (x.1))), (.dv [] (.int .i64 (x.2.1))), (.dv [] (a0z (x.2.2.1))), (.dv [] (a0B (x.2.2.2)))]), (2, 33, [(.dv [] (.str (ByteArray.empty))), (.dv [] (.int .i64 (0))), .nil, .nil]), (3, 33, [(.dv [] (.str (x.1))), (.dv [] (.int .i64 (x.2.1))), .nil, (.key 900)])], [(900, some (a0b false (.sl 97 2 ((x.2.2.2).length) ((x.2.2.2).flatMap a1O))))]⟩) ?_ ?_
 ·refine a5I [0, 1, 2, 3, 4, 5, 6, 7, 8, 9] (oB := [1, 2]) (oK := []) (by kernel_rfl) rfl rfl ?_
  refine b4e ?_
  refine zN 0 ?_
  refine zN 1 ?_
  refine zN 2 ?_
  refine zN 3 ?_
  refine zN 5 ?_
  refine zN 6 ?_
  refine a2e 4 [9] (by kernel_rfl) ⟨?_, ?_, trivial⟩
  ·refine a8W (k := 900) 4 hT rfl rfl rfl rfl rfl rfl rfl rfl rfl rfl rfl rfl ?_
   refine a2e 7 [9] (by kernel_rfl) ⟨?_, ?_, trivial⟩
   ·refine a4c (k := 900) (cs := (x.2.2.2).flatMap a1O) (n := (x.2.2.2).length) 7 hT rfl rfl rfl rfl rfl rfl rfl rfl (a0a rfl) rfl rfl rfl (a0a rfl) (a3r (fun _ => rfl) _) (by first | (dsimp only [a0b]; omega) | omega) (by first | (dsimp only [a0b]; omega) | omega) (Nat.zero_add _) (rfl) rfl rfl ?_
    simp only [a0l, a0j, SV.kill, CV.kill, kk, Nat.reduceBEq]
    refine a5x 8 rfl (by kernel_rfl) rfl rfl (a1x hT hB rfl rfl rfl (a1r (a0a rfl) rfl rfl rfl rfl rfl (a1r (a0a rfl) rfl rfl rfl rfl rfl (a1r (a0a rfl) rfl rfl rfl rfl rfl a1w)))) rfl rfl rfl rfl ?_
    refine a2e 9 [] (by kernel_rfl) ⟨?_, trivial⟩
    ·refine a8N 9 hT rfl rfl rfl rfl rfl rfl rfl rfl rfl rfl ?_
     refine a2e 10 [] (by kernel_rfl) ⟨?_, trivial⟩
     ·refine a5V 10 rfl rfl (by kernel_rfl) (a4V hT rfl rfl rfl (a0a rfl) (a0a rfl) rfl rfl rfl rfl rfl rfl) (by kernel_rfl) ?_
      exact a2p (a0e ⟨rfl, rfl, rfl, trivial⟩ ⟨rfl, rfl, rfl, trivial⟩ ⟨rfl, trivial⟩ rfl)
   ·refine a8N 9 hT rfl rfl rfl rfl rfl rfl rfl rfl rfl rfl ?_
    refine a2e 7 [] (by kernel_rfl) ⟨?_, trivial⟩
    ·refine a4c (k := 900) (cs := (x.2.2.2).flatMap a1O) (n := (x.2.2.2).length) 7 hT rfl rfl rfl rfl rfl rfl rfl rfl (a0a rfl) rfl rfl rfl (a0a rfl) (a3r (fun _ => rfl) _) (by first | (dsimp only [a0b]; omega) | omega) (by first | (dsimp only [a0b]; omega) | omega) (Nat.zero_add _) (rfl) rfl rfl ?_
     simp only [a0l, a0j, SV.kill, CV.kill, kk, Nat.reduceBEq]
     refine a5x 8 rfl (by kernel_rfl) rfl rfl (a1x hT hB rfl rfl rfl (a1r (a0a rfl) rfl rfl rfl rfl rfl (a1r (a0a rfl) rfl rfl rfl rfl rfl (a1r (a0a rfl) rfl rfl rfl rfl rfl a1w)))) rfl rfl rfl rfl ?_
     refine a2e 10 [] (by kernel_rfl) ⟨?_, trivial⟩
     ·refine a5V 10 rfl rfl (by kernel_rfl) (a4V hT rfl rfl rfl (a0a rfl) (a0a rfl) rfl rfl rfl rfl rfl rfl) (by kernel_rfl) ?_
      exact a2p (a0e ⟨rfl, rfl, rfl, trivial⟩ ⟨rfl, rfl, rfl, trivial⟩ ⟨rfl, trivial⟩ rfl)
  ·refine a8N 9 hT rfl rfl rfl rfl rfl rfl rfl rfl rfl rfl ?_
   refine a2e 4 [] (by kernel_rfl) ⟨?_, trivial⟩
   ·refine a8W (k := 900) 4 hT rfl rfl rfl rfl rfl rfl rfl rfl rfl rfl rfl rfl ?_
    refine a2e 7 [] (by kernel_rfl) ⟨?_, trivial⟩
    ·refine a4c (k := 900) (cs := (x.2.2.2).flatMap a1O) (n := (x.2.2.2).length) 7 hT rfl rfl rfl rfl rfl rfl rfl rfl (a0a rfl) rfl rfl rfl (a0a rfl) (a3r (fun _ => rfl) _) (by first | (dsimp only [a0b]; omega) | omega) (by first | (dsimp only [a0b]; omega) | omega) (Nat.zero_add _) (rfl) rfl rfl ?_
     simp only [a0l, a0j, SV.kill, CV.kill, kk, Nat.reduceBEq]
     refine a5x 8 rfl (by kernel_rfl) rfl rfl (a1x hT hB rfl rfl rfl (a1r (a0a rfl) rfl rfl rfl rfl rfl (a1r (a0a rfl) rfl rfl rfl rfl rfl (a1r (a0a rfl) rfl rfl rfl rfl rfl a1w)))) rfl rfl rfl rfl ?_
     refine a2e 10 [] (by kernel_rfl) ⟨?_, trivial⟩
     ·refine a5V 10 rfl rfl (by kernel_rfl) (a4V hT rfl rfl rfl (a0a rfl) (a0a rfl) rfl rfl rfl rfl rfl rfl) (by kernel_rfl) ?_
      exact a2p (a0e ⟨rfl, rfl, rfl, trivial⟩ ⟨rfl, rfl, rfl, trivial⟩ ⟨rfl, trivial⟩ rfl)
 refine a0q ?_
 refine a0q ?_
 refine a0h (a4h 31 (b := 3) (i := 2) (e := 67) (sz := 3) rfl rfl rfl rfl rfl) ?_
 simp only [a0l, a0j, SV.kill, CV.kill, kk, Nat.reduceBEq]
 refine a0k ?_
 iterate 3 refine z ?_
 refine a0X (ι := Nat) (fun zz => ⟨[(1, .box 1 0), (2, .box 2 0), (3, .box 3 0), (4, .one (.dv [] (.int .i64 ((zz : Int)))))], [(1, 33, [(.dv [] (.str (x.1))), (.dv [] (.int .i64 (x.2.1))), (.dv [] (a0z (x.2.2.1))), (.dv [] (a0B (x.2.2.2)))]), (2, 33, [(.dv [] (.str (ByteArray.empty))), (.dv [] (.int .i64 (0))), .nil, .nil]), (3, 33, [(.dv [] (.str (x.1))), (.dv [] (.int .i64 (x.2.1))), (.key 31), (.key 900)])], [(31, some (a0b false (.sl 67 3 ((x.2.2.1.take zz).length) ((x.2.2.1.take zz).flatMap a1n)))), (900, some (a0b false (.sl 97 2 ((x.2.2.2).length) ((x.2.2.2).flatMap a1O))))]⟩) (fun zz => zz ≤ x.2.2.1.length) (fun zz => x.2.2.1.length - zz) (0) ?_ (a0e ⟨rfl, rfl, rfl, rfl, trivial⟩ ⟨rfl, rfl, rfl, trivial⟩ ⟨rfl, rfl, trivial⟩ rfl) (fun zz hx => ?_)
 ·exact Nat.zero_le _
 obtain ⟨k, rfl⟩ : ∃ v, v = zz := ⟨_, rfl⟩
 replace hx : k ≤ x.2.2.1.length := hx
 have hw := fun h => a2T a0T x.2.2.1 k h
 show Ok _ _ _ _ _ (⟨[(1, .box 1 0), (2, .box 2 0), (3, .box 3 0), (4, .one (.dv [] (.int .i64 ((k : Int)))))], [(1, 33, [(.dv [] (.str (x.1))), (.dv [] (.int .i64 (x.2.1))), (.dv [] (a0z (x.2.2.1))), (.dv [] (a0B (x.2.2.2)))]), (2, 33, [(.dv [] (.str (ByteArray.empty))), (.dv [] (.int .i64 (0))), .nil, .nil]), (3, 33, [(.dv [] (.str (x.1))), (.dv [] (.int .i64 (x.2.1))), (.key 31), (.key 900)])], [(31, some (a0b false (.sl 67 3 ((x.2.2.1.take k).length) ((x.2.2.1.take k).flatMap a1n)))), (900, some (a0b false (.sl 97 2 ((x.2.2.2).length) ((x.2.2.2).flatMap a1O))))]⟩ : St)
 iterate 8 refine z ?_
 refine yQ rfl (fun c1 => ?_) fun c1 => ?_
 ·have d1 := of_decide_eq_true c1
  have hk2 : k < x.2.2.1.length := by omega
  obtain ⟨hw1, hw2⟩ := hw hk2
  iterate 4 refine z ?_
  refine a5I [0, 1, 2, 3, 4, 5, 6, 7, 8] (oB := [1, 2, 3]) (oK := [31, 900]) (by kernel_rfl) rfl rfl ?_
  refine zD 0 ?_
  refine zD 1 ?_
  refine zD 2 ?_
  refine zD 3 ?_
  refine zD 4 ?_
  refine zD 5 ?_
  refine zD 6 ?_
  refine a2j 28000 7 rfl (by kernel_rfl) rfl rfl rfl Tryz.call35 (a7F (x := (((x.2.2.1)).getD ((k : Int)).toNat default)) (by omega)) (a0g (a0a rfl) (a0s (a0d a0c (a0d a0c (a0d a0c a0r)))) a0m) rfl rfl rfl rfl rfl ?_
  refine a7c (k := 29) (js := [28030]) 8 hT rfl (by kernel_rfl) rfl rfl rfl rfl rfl rfl rfl rfl rfl (a0a rfl) rfl rfl (a0t (a0W rfl) (a0t (a1i rfl) (a0t (a0W rfl) a1m rfl) rfl) rfl) (by decide) (by decide) rfl rfl (by decide) ?_
  simp only [a0l, a0j, SV.kill, CV.kill, kk, Nat.reduceBEq]
  refine a4d [9, 10, 11] rfl rfl (by kernel_rfl) ?_
  refine a3l (k := 31) (j := 29) (cs := (x.2.2.1.take (k + 1)).flatMap a1n) (n := (x.2.2.1.take (k + 1)).length) hT rfl rfl rfl rfl rfl rfl rfl (a0a rfl) rfl rfl rfl (a0a rfl) rfl rfl (by decide) (by dsimp only [a0b]; simp only [List.length_take]; omega) (by dsimp only [a0b]; simp only [List.length_take]; omega) ((b0M (enc := a1n) hk2).2) ((b0M (enc := a1n) hk2).1) ?_
  simp only [a0l, a0j, SV.kill, CV.kill, kk, Nat.reduceBEq]
  iterate 2 refine z ?_
  refine a1t ?_
  iterate 2 refine z ?_
  refine a0k ?_
  iterate 4 refine z ?_
  refine ⟨k + 1, ?_, ?_, a0e ⟨rfl, rfl, rfl, rfl, trivial⟩ ⟨rfl, rfl, rfl, trivial⟩ ⟨rfl, rfl, trivial⟩ rfl⟩
  ·omega
  ·omega
 ·have d1 := of_decide_eq_false c1
  iterate 9 refine z ?_
  refine a0h (σ' := ⟨[(2, .box 2 0)], [(2, 33, [(.dv [] (.str (x.1))), (.dv [] (.int .i64 (x.2.1))), (.key 31), (.key 900)])], [(31, some (a0b false (a0z (x.2.2.1)))), (900, some (a0b false (a0B (x.2.2.2))))]⟩) (a0e ⟨rfl, trivial⟩ ⟨rfl, trivial⟩ ⟨(congrArg (fun l : List (a0P) => some (some (KC.mk false 67 3 l.length (l.flatMap a1n)))) (List.take_of_length_le (by omega))), rfl, trivial⟩ rfl) ?_
  refine z ?_
  refine a1p (a0F hT rfl rfl rfl rfl) ?_
  exact ⟨rfl, rfl⟩
section
variable {α : Type} {enc : α → List DV} {sz : Nat} {q : α → Bool} {x : List α}
theorem a5d (hs : ∀ y, (enc y).length = sz) : ∀ xs : List α, (xs.flatMap enc).length = xs.length * sz
 | [] => by simp
 | y :: xs => by rw [List.flatMap_cons, List.length_append, a5d hs xs, hs, List.length_cons, Nat.add_mul, Nat.one_mul, Nat.add_comm]
theorem a9G {p : α → Bool} {d : α} : ∀ (xs : List α) (i : Int), 0 ≤ i → (a0u p xs i = -1 ∧ xs.any p = false) ∨ ∃ m, m < xs.length ∧ a0u p xs i = i + (m : Int) ∧ (xs.take m).any p = false ∧ p (xs.getD m d) = true
 | [], i, h => .inl ⟨rfl, rfl⟩
 | y :: xs, i, h => by
  rw [a0u]
  by_cases hp : p y = true
  ·rw [if_pos hp]
   exact .inr ⟨0, by simp, by simp, by simp, by simpa using hp⟩
  ·rw [if_neg hp]
   rcases a9G (p := p) (d := d) xs (i + 1) (by omega) with ⟨h1, h2⟩ | ⟨m, h1, h2, h3, h4⟩
   ·exact .inl ⟨h1, by simp [h2, hp]⟩
   ·exact .inr ⟨m + 1, by simpa using h1, by rw [h2]; omega, by simp [h3, hp], by simpa using h4⟩
def a3k (enc : α → List DV) (q : α → Bool) (x : List α) (k : Nat) (G : List DV) : List DV := ((x.take k).filter q).flatMap enc ++ (G ++ (x.drop k).flatMap enc)
theorem c6Y (hs : ∀ y, (enc y).length = sz) {i k : Nat} {G : List DV} (hi : i = ((x.take k).filter q).length) (hG : G.length + i * sz = k * sz) (hk : k ≤ x.length) : (a3k enc q x k G).length = x.length * sz := by
 have e : (x.length - k) * sz + k * sz = x.length * sz := by rw [← Nat.add_mul]; congr 1; omega
 rw [a3k, List.length_append, List.length_append, a5d hs, a5d hs, ← hi, List.length_drop]
 omega
theorem b8z (hs : ∀ y, (enc y).length = sz) {i k : Nat} {G : List DV} [Inhabited α] (hi : i = ((x.take k).filter q).length) (hG : G.length + i * sz = k * sz) (hk : k < x.length) : sub (k * sz) sz (a3k enc q x k G) = enc (x.getD k default) := by
 have e : x.drop k = x.getD k default :: x.drop (k + 1) := by rw [List.drop_eq_getElem_cons hk]; simp [List.getD, List.getElem?_eq_getElem hk]
 rw [a3k, ← List.append_assoc, e, List.flatMap_cons, sub, List.drop_left' (by rw [List.length_append, a5d hs, ← hi]; omega), List.take_left' (hs _)]
theorem c6E (hs : ∀ y, (enc y).length = sz) {i k : Nat} {G : List DV} [Inhabited α] (hi : i = ((x.take k).filter q).length) (hG : G.length + i * sz = k * sz) (hk : k < x.length) (hik : i < k) (hq : q (x.getD k default) = true) :
  a1a (i * sz) (enc (x.getD k default)) (a1a (k * sz) (List.replicate sz .hole) (a3k enc q x k G)) = a3k enc q x (k + 1) (G.drop sz ++ List.replicate sz .hole) := by
 have e : x.drop k = x.getD k default :: x.drop (k + 1) := by rw [List.drop_eq_getElem_cons hk]; simp [List.getD, List.getElem?_eq_getElem hk]
 have m1 : (i + 1) * sz ≤ k * sz := Nat.mul_le_mul_right _ hik
 rw [Nat.add_mul, Nat.one_mul] at m1
 have l1 : (((x.take k).filter q).flatMap enc).length = i * sz := by rw [a5d hs, ← hi]
 have e1 : a1a (k * sz) (List.replicate sz DV.hole) (a3k enc q x k G) = ((x.take k).filter q).flatMap enc ++ (G.take sz ++ (G.drop sz ++ (List.replicate sz .hole ++ (x.drop (k + 1)).flatMap enc))) := by
  rw [a3k, e, List.flatMap_cons, ← List.append_assoc, a6U (by rw [List.length_append, l1]; omega) (by simp [hs])]
  rw [List.append_assoc, ← List.append_assoc (G.take sz), List.take_append_drop]
 rw [e1, a6U l1.symm (by rw [hs, List.length_take]; omega), a3k, List.take_add_one, List.getElem?_eq_getElem hk, List.filter_append, List.flatMap_append]
 have : x.getD k default = x[k] := by simp [List.getD, List.getElem?_eq_getElem hk]
 rw [this] at hq ⊢
 simp [hq]
theorem c2N (hs : ∀ y, (enc y).length = sz) {k : Nat} {G : List DV} [Inhabited α] (hk : k < x.length) (hq : q (x.getD k default) = false) : a3k enc q x k G = a3k enc q x (k + 1) (G ++ enc (x.getD k default)) ∧ ((x.take (k + 1)).filter q).length = ((x.take k).filter q).length := by
 have e : x.drop k = x.getD k default :: x.drop (k + 1) := by rw [List.drop_eq_getElem_cons hk]; simp [List.getD, List.getElem?_eq_getElem hk]
 have : x.getD k default = x[k] := by simp [List.getD, List.getElem?_eq_getElem hk]
 have e2 : (x.take (k + 1)).filter q = (x.take k).filter q := by
  rw [List.take_add_one, List.getElem?_eq_getElem hk, List.filter_append]
  rw [this] at hq
  simp [hq]
 refine ⟨?_, by rw [e2]⟩
 rw [a3k, a3k, e2, e, List.flatMap_cons]
 simp
theorem c4d {k : Nat} [Inhabited α] (hk : k < x.length) (hq : q (x.getD k default) = true) : ((x.take (k + 1)).filter q).length = ((x.take k).filter q).length + 1 := by
 have : x.getD k default = x[k] := by simp [List.getD, List.getElem?_eq_getElem hk]
 rw [List.take_add_one, List.getElem?_eq_getElem hk, List.filter_append]
 rw [this] at hq
 simp [hq]
theorem c3X (hs : ∀ y, (enc y).length = sz) {i k : Nat} {G : List DV} (hi : i = ((x.take k).filter q).length) (hG : G.length + i * sz = k * sz) (hk : k = x.length) : a1a (i * sz) (List.replicate ((x.length - i) * sz) .hole) (a3k enc q x k G) = (x.filter q).flatMap enc ++ List.replicate ((x.length - i) * sz) .hole := by
 subst hk
 rw [List.take_length] at hi
 have m : (x.length - i) * sz + i * sz = x.length * sz := by rw [← Nat.add_mul]; congr 1; have := List.length_filter_le q x; omega
 rw [a3k, List.take_length, List.drop_length, List.flatMap_nil]
 have := a6U (A := (x.filter q).flatMap enc) (B := G) (us := List.replicate ((x.length - i) * sz) DV.hole) (D := []) (off := i * sz) (by rw [a5d hs, hi]) (by simp; omega)
 simpa using this
theorem c5O (hs : ∀ y, (enc y).length = sz) {i : Nat} {H : List DV} (hi : i = (x.filter q).length) : ((x.filter q).flatMap enc ++ H).take (i * sz) = (x.filter q).flatMap enc := List.take_left' (by rw [a5d hs, hi])
theorem c5j {m : Nat} [Inhabited α] (hm : m < x.length) (h3 : (x.take m).any (fun y => !q y) = false) (h4 : q (x.getD m default) = false) : x.flatMap enc = a3k enc q x (m + 1) (enc (x.getD m default)) ∧ m = ((x.take (m + 1)).filter q).length := by
 have e : x.drop m = x.getD m default :: x.drop (m + 1) := by rw [List.drop_eq_getElem_cons hm]; simp [List.getD, List.getElem?_eq_getElem hm]
 have this : x.getD m default = x[m] := by simp [List.getD, List.getElem?_eq_getElem hm]
 have e1 : (x.take m).filter q = x.take m := by
  rw [List.filter_eq_self]
  intro y hy
  rw [List.any_eq_false] at h3
  simpa using h3 y hy
 have e2 : (x.take (m + 1)).filter q = x.take m := by
  rw [List.take_add_one, List.getElem?_eq_getElem hm, List.filter_append, e1]
  rw [this] at h4
  simp [h4]
 refine ⟨?_, by rw [e2, List.length_take]; omega⟩
 rw [a3k, e2, ← List.flatMap_cons, ← e, ← List.flatMap_append, List.take_append_drop]
theorem c1V (h : x.any (fun y => !q y) = false) : x.filter q = x := by
 rw [List.filter_eq_self]
 intro y hy
 rw [List.any_eq_false] at h
 simpa using h y hy
end
def a4P (r : a3S) (y : a0L) : Bool := a5S y.1 r
def a1z (r : a3S) (y : a0L) : Bool := !a5S y.1 r
theorem b5n (r : a3S) : (fun y => !a1z r y) = a4P r := by funext y; simp [a1z, a4P]
def a1L (x : a0P) (r : a3S) : a0P × Int := if a1D x then ((x.1, x.2.1.filter (a1z r), x.2.2), (x.2.1.length : Int) - ((x.2.1.filter (a1z r)).length : Int)) else (x, 0)
theorem b7W {p : a0L → Bool} {xs : List a0L} {k : Nat} (hk : k < xs.length) (h : p (xs.getD (k : Int).toNat default) = true) : ((xs.take k).filter p).flatMap a0A ++ a0A (xs.getD (k : Int).toNat default) = ((xs.take (k + 1)).filter p).flatMap a0A ∧ ((xs.take k).filter p).length + 1 = ((xs.take (k + 1)).filter p).length := by
 rw [b8P hk, if_pos h, List.flatMap_append, List.flatMap_cons, List.flatMap_nil, List.append_nil, List.length_append]
 exact ⟨rfl, rfl⟩
theorem c5u {p : a0L → Bool} {xs : List a0L} {k : Nat} (hk : k < xs.length) (h : p (xs.getD (k : Int).toNat default) = false) : (xs.take k).filter p = (xs.take (k + 1)).filter p := by
 rw [b8P hk, if_neg (by rw [h]; simp), List.append_nil]
theorem b9w {x : a0P} {r : a3S} (h : (!a1D x) = true) : a1L x r = (x, 0) := by rw [a1L, if_neg (by simpa using h)]
theorem b7l {x : a0P} {r : a3S} (h : (!a1D x) = false) : a1L x r = ((x.1, x.2.1.filter (a1z r), x.2.2), (x.2.1.length : Int) - ((x.2.1.filter (a1z r)).length : Int)) := by rw [a1L, if_pos (by simpa using h)]
theorem b9d {y : a0L} {r : a3S}  : PFn Tryz.prog 150 [.agg [(.dv [] (.int .i64 (y.1.1))), (.dv [] (.int .i64 (y.1.2.1))), (.dv [] (.str (y.1.2.2))), (.dv [] (a0w (y.2)))], .ref [] [.bool (r.1), .bool (r.2.1), .int .i64 (r.2.2.1.1), .int .i64 (r.2.2.1.2.1), .str (r.2.2.1.2.2), .int .i64 (r.2.2.2.1), .int .i64 (r.2.2.2.2.1), .str (r.2.2.2.2.2)]] (.one (.dv [] (.bool (a4P r y)))) := by
 refine ⟨a0v Tryz.func150 rfl Tryz.ntmps150 Tryz.results150 rfl (fun C => ?_)⟩
 refine yF 0 0 rfl rfl fun f0_0 => ?_
 refine yF 0 1 rfl rfl fun f0_1 => ?_
 refine yF 0 2 rfl rfl fun f0_2 => ?_
 refine yF 0 3 rfl rfl fun f0_3 => ?_
 iterate 8 refine z ?_
 refine zC Tryz.call151 ?_ (hf := c3u)
 iterate 4 refine z ?_
 rfl
theorem c4m {x : List a0L} {r : a3S}  : PFn Tryz.prog 147 [.one (.dv [] (a0n (x))), .fn 150 [[.bool (r.1), .bool (r.2.1), .int .i64 (r.2.2.1.1), .int .i64 (r.2.2.1.2.1), .str (r.2.2.1.2.2), .int .i64 (r.2.2.2.1), .int .i64 (r.2.2.2.2.1), .str (r.2.2.2.2.2)]]] (.one (.dv [] (.int .i64 (a0u (a4P r) x 0)))) := by
 refine ⟨a0v Tryz.func147 rfl Tryz.ntmps147 Tryz.results147 rfl (fun C => ?_)⟩
 refine a0E (x := .tmp 0) (a0a rfl) fun f0 => ?_
 iterate 10 refine z ?_
 refine a0X (ι := Nat) (fun zz => ⟨[(0, .one (.dv [] (a0n (x)))), (1, .fn 150 [[.bool (r.1), .bool (r.2.1), .int .i64 (r.2.2.1.1), .int .i64 (r.2.2.1.2.1), .str (r.2.2.1.2.2), .int .i64 (r.2.2.2.1), .int .i64 (r.2.2.2.2.1), .str (r.2.2.2.2.2)]]), (7, .one (.dv [] (.int .i64 ((((x)).length : Int))))), (8, .one (.dv [] (.int .i64 ((zz : Int)))))], [], []⟩) (fun zz => zz ≤ x.length ∧ (x.take zz).any (a4P r) = false) (fun zz => x.length - zz) (0) ?_ (a0e ⟨rfl, rfl, rfl, rfl, trivial⟩ trivial trivial rfl) (fun zz hx => ?_)
 ·exact ⟨Nat.zero_le _, rfl⟩
 obtain ⟨n, rfl⟩ : ∃ v, v = zz := ⟨_, rfl⟩
 replace hx : n ≤ x.length ∧ (x.take n).any (a4P r) = false := hx
 obtain ⟨hk, hall⟩ := hx
 show Ok _ _ _ _ _ (⟨[(0, .one (.dv [] (a0n (x)))), (1, .fn 150 [[.bool (r.1), .bool (r.2.1), .int .i64 (r.2.2.1.1), .int .i64 (r.2.2.1.2.1), .str (r.2.2.1.2.2), .int .i64 (r.2.2.2.1), .int .i64 (r.2.2.2.2.1), .str (r.2.2.2.2.2)]]), (7, .one (.dv [] (.int .i64 ((((x)).length : Int))))), (8, .one (.dv [] (.int .i64 ((n : Int)))))], [], []⟩ : St)
 iterate 3 refine z ?_
 refine a0q ?_
 refine yQ rfl (fun c1 => ?_) fun c1 => ?_
 ·have d1 := of_decide_eq_true c1
  iterate 14 refine z ?_
  refine b0b rfl rfl rfl (a0a rfl) Tryz.call150 b9d (a0g (a0a rfl) (a0s (a0d a0c (a0d a0c (a0d a0c (a0d a0c a0r))))) a0m) rfl rfl ?_
  refine z ?_
  refine yQ rfl (fun c2 => ?_) fun c2 => ?_
  ·iterate 11 refine z ?_
   exact (a6A (p := a4P r) (d := default) hall (by omega) c2).symm
  ·iterate 3 refine z ?_
   refine a0k ?_
   iterate 3 refine z ?_
   refine ⟨n + 1, ?_, ?_, a0e ⟨rfl, rfl, rfl, rfl, trivial⟩ trivial trivial rfl⟩
   ·exact ⟨by omega, a6H (d := default) hall (by omega) c2⟩
   ·omega
 ·have d1 := of_decide_eq_false c1
  iterate 10 refine z ?_
  exact (a6G (p := a4P r) hall (by omega)).symm
theorem c1z {x : List a0L} {r : a3S} (hb : x.length ≤ 1099511627776) : MFn Tryz.prog 149 [.fn 150 [[.bool (r.1), .bool (r.2.1), .int .i64 (r.2.2.1.1), .int .i64 (r.2.2.1.2.1), .str (r.2.2.1.2.2), .int .i64 (r.2.2.2.1), .int .i64 (r.2.2.2.2.1), .str (r.2.2.2.2.2)]]] (a0b false (.sl 107 4 (x.length) (x.flatMap a0A))) (a0b false (.sl 107 4 ((x.filter (a1z r)).length) ((x.filter (a1z r)).flatMap a0A))) := by
 refine ⟨a0v Tryz.func149 rfl Tryz.ntmps149 Tryz.results149 rfl (fun C => ?_)⟩
 iterate 6 refine z ?_
 refine a3a rfl rfl rfl Tryz.call147 c4m (a0g (a0a rfl) (a0D (a0Q rfl rfl)) (a0g (a0a rfl) c1Y a0m)) rfl rfl ?_
 iterate 7 refine z ?_
 refine yQ rfl (fun c1 => ?_) fun c1 => ?_
 ·have d1 := of_decide_eq_true c1
  have hn := (a9G (p := a4P r) (d := default) x 0 (by omega)).resolve_right (fun ⟨m, h1, h2, _⟩ => by omega)
  rw [← b5n r] at hn
  have hfe := c1V hn.2
  iterate 4 refine z ?_
  refine a0h (σ' := ⟨[(4, .one (.key 0))], [], [(0, some (a0b false (.sl 107 4 ((x.filter (a1z r)).length) ((x.filter (a1z r)).flatMap a0A))))]⟩) (a0e ⟨rfl, trivial⟩ trivial ⟨(congrArg (fun l : List a0L => some (some (KC.mk false 107 4 l.length (l.flatMap a0A)))) hfe.symm), trivial⟩ rfl) ?_
  iterate 2 refine z ?_
  refine a1p (a0i rfl) ?_
  exact ⟨rfl, rfl⟩
 ·have d1 := of_decide_eq_false c1
  obtain ⟨m, hm1, hm2, hm3, hm4⟩ := (a9G (p := a4P r) (d := default) x 0 (by omega)).resolve_left (fun h => d1 h.1)
  rw [← b5n r] at hm3
  have hm5 : a1z r (x.getD m default) = false := by unfold a1z; rw [show a5S (x.getD m default).1 r = true from hm4]; rfl
  have hst := c5j (enc := a0A) hm1 hm3 hm5
  iterate 9 refine z ?_
  refine a0X (ι := Nat × Nat × List DV) (fun zz => ⟨[(0, .one (.key 0)), (1, .fn 150 [[.bool (r.1), .bool (r.2.1), .int .i64 (r.2.2.1.1), .int .i64 (r.2.2.1.2.1), .str (r.2.2.1.2.2), .int .i64 (r.2.2.2.1), .int .i64 (r.2.2.2.2.1), .str (r.2.2.2.2.2)]]), (4, .one .nil), (5, .one (.dv [] (.int .i64 ((zz.1 : Int))))), (6, .one (.dv [] (.int .i64 ((zz.2.1 : Int)))))], [], [(0, some (a0b false (.sl 107 4 (x.length) (a3k a0A (a1z r) x zz.2.1 zz.2.2))))]⟩) (fun zz => zz.1 = ((x.take zz.2.1).filter (a1z r)).length ∧ zz.1 < zz.2.1 ∧ zz.2.1 ≤ x.length ∧ zz.2.2.length + zz.1 * 4 = zz.2.1 * 4) (fun zz => x.length - zz.2.1) ((m, m + 1, a0A (x.getD m default))) ?_ (a0e ⟨rfl, rfl, rfl, (congrArg (fun z : Int => some (SV.one (CV.dv [] (DV.int .i64 z)))) (show a0u (a4P r) x 0 = (m : Int) by omega)), (congrArg (fun z : Int => some (SV.one (CV.dv [] (DV.int .i64 z)))) (show a0u (a4P r) x 0 + 1 = ((m + 1 : Nat) : Int) by omega)), trivial⟩ trivial ⟨(congrArg (fun cs => some (some (KC.mk false 107 4 x.length cs))) (hst.1)), trivial⟩ rfl) (fun zz hx => ?_)
  ·exact ⟨hst.2, by show m < m + 1; omega, by show m + 1 ≤ x.length; omega, by show 4 + m * 4 = (m + 1) * 4; omega⟩
  obtain ⟨i, k, G⟩ := zz
  replace hx : i = ((x.take k).filter (a1z r)).length ∧ i < k ∧ k ≤ x.length ∧ G.length + i * 4 = k * 4 := hx
  obtain ⟨hi, hik, hk, hG⟩ := hx
  show Ok _ _ _ _ _ (⟨[(0, .one (.key 0)), (1, .fn 150 [[.bool (r.1), .bool (r.2.1), .int .i64 (r.2.2.1.1), .int .i64 (r.2.2.1.2.1), .str (r.2.2.1.2.2), .int .i64 (r.2.2.2.1), .int .i64 (r.2.2.2.2.1), .str (r.2.2.2.2.2)]]), (4, .one .nil), (5, .one (.dv [] (.int .i64 ((i : Int))))), (6, .one (.dv [] (.int .i64 ((k : Int)))))], [], [(0, some (a0b false (.sl 107 4 (x.length) (a3k a0A (a1z r) x k G))))]⟩ : St)
  iterate 4 refine z ?_
  refine yO rfl rfl (a2S (n := (x.length)) hT rfl rfl (a0a rfl) rfl rfl) rfl ?_
  iterate 2 refine z ?_
  refine yQ rfl (fun c2 => ?_) fun c2 => ?_
  ·have d2 := of_decide_eq_true c2
   have hk2 : k < x.length := by omega
   iterate 7 refine z ?_
   refine yO rfl rfl (a2v (i := k) hT rfl rfl rfl (a0a rfl) rfl (a0a rfl) rfl (by show _ < (x.length); omega)) rfl ?_
   refine yO rfl rfl (b2x (ds := [.int .i64 ((x.getD (k : Int).toNat default).1.1), .int .i64 ((x.getD (k : Int).toNat default).1.2.1), .str ((x.getD (k : Int).toNat default).1.2.2), a0w ((x.getD (k : Int).toNat default).2)]) hT rfl rfl (a0a rfl) rfl rfl (by decide) (b8z (enc := a0A) (q := a1z r) (sz := 4) (fun _ => rfl) hi hG hk2)) rfl ?_
   iterate 6 refine z ?_
   refine b0b rfl rfl rfl (a0a rfl) Tryz.call150 b9d (a0g (a0a rfl) (a0s (a0d a0c (a0d a0c (a0d a0c (a0d a9c a0r))))) a0m) rfl rfl ?_
   iterate 2 refine z ?_
   refine yQ rfl (fun c3 => ?_) fun c3 => ?_
   ·have hq : a1z r (x.getD k default) = true := c3
    have hy := c4d (q := a1z r) hk2 hq
    iterate 4 refine z ?_
    refine yO rfl rfl (a2v (i := i) hT rfl rfl rfl (a0a rfl) rfl (a0a rfl) rfl (by show _ < (x.length); omega)) rfl ?_
    refine c5E (src := k * 4) (ds := [.int .i64 ((x.getD (k : Int).toNat default).1.1), .int .i64 ((x.getD (k : Int).toNat default).1.2.1), .str ((x.getD (k : Int).toNat default).1.2.2), a0w ((x.getD (k : Int).toNat default).2)]) (cs := a3k a0A (a1z r) x (k + 1) (G.drop 4 ++ List.replicate 4 .hole)) hT rfl rfl rfl rfl (a0a rfl) (a0a rfl) rfl rfl (b8z (enc := a0A) (q := a1z r) (sz := 4) (fun _ => rfl) hi hG hk2) (by omega) (by rw [c6Y (sz := 4) (fun _ => rfl) hi hG hk]; omega) (c6E (sz := 4) (fun _ => rfl) hi hG hk2 hik hq) ?_
    simp only [a0l, a0j, SV.kill, CV.kill, kk, Nat.reduceBEq]
    refine z ?_
    refine a0k ?_
    iterate 3 refine z ?_
    refine a1t ?_
    iterate 2 refine z ?_
    refine a0k ?_
    iterate 4 refine z ?_
    refine ⟨(i + 1, k + 1, (G.drop 4 ++ List.replicate 4 .hole)), ?_, ?_, a0e ⟨rfl, rfl, rfl, rfl, rfl, trivial⟩ trivial ⟨rfl, trivial⟩ rfl⟩
    ·exact ⟨by dsimp only; omega, by dsimp only; omega, by dsimp only; omega, by simp; omega⟩
    ·dsimp only; omega
   ·have hq : a1z r (x.getD k default) = false := c3
    have hno := c2N (enc := a0A) (q := a1z r) (sz := 4) (G := G) (fun _ => rfl) hk2 hq
    iterate 3 refine z ?_
    refine a0k ?_
    iterate 4 refine z ?_
    refine ⟨(i, k + 1, G ++ a0A (x.getD k default)), ?_, ?_, a0e ⟨rfl, rfl, rfl, rfl, rfl, trivial⟩ trivial ⟨(congrArg (fun cs => some (some (KC.mk false 107 4 x.length cs))) (hno.1)), trivial⟩ rfl⟩
    ·exact ⟨by dsimp only; omega, by dsimp only; omega, by dsimp only; omega, by show (G ++ a0A _).length + i * 4 = (k + 1) * 4; rw [List.length_append]; show G.length + 4 + i * 4 = _; omega⟩
    ·dsimp only; omega
  ·have d2 := of_decide_eq_false c2
   iterate 8 refine z ?_
   refine yO rfl rfl (c2H (j := 0) (n := (x.length)) (lo := i) (sz := 4) (z := (i : Int)) hT rfl rfl rfl (a0a rfl) rfl (a0a rfl) rfl rfl (by omega) (by omega)) rfl ?_
   refine c7Y (k := 0) (lo := i) (hi := (x.length)) (sz := 4) (cs := (x.filter (a1z r)).flatMap a0A ++ List.replicate ((x.length - i) * 4) .hole) hT rfl rfl rfl rfl rfl rfl (a0a rfl) rfl rfl rfl (by first | omega | (dsimp only [a0b]; omega)) (by first | omega | (dsimp only [a0b]; omega)) (c3X (sz := 4) (fun _ => rfl) hi hG (by omega)) ?_
   simp only [a0l, a0j, SV.kill, CV.kill, kk, Nat.reduceBEq]
   iterate 4 refine z ?_
   refine yO rfl rfl (c7e (j := 0) (n := (x.length)) (hi := i) (sz := 4) (z := (i : Int)) hT rfl rfl rfl (a0a rfl) rfl (a0a rfl) rfl rfl (by omega) (by omega)) rfl ?_
   iterate 2 refine z ?_
   have hke : k = x.length := by omega
   have hi2 : i = (x.filter (a1z r)).length := by rw [hi, hke, List.take_length]
   refine a0h (c1f (s := 4) (k := 0) (m := i) (sz := 4) (cs := (x.filter (a1z r)).flatMap a0A) rfl rfl rfl rfl (by first | omega | (dsimp only [a0b]; omega)) (c5O (sz := 4) (fun _ => rfl) hi2)) ?_
   simp only [a0l, a0j, SV.kill, CV.kill, kk, Nat.reduceBEq]
   refine a0h (σ' := ⟨[(4, .one (.key 0))], [], [(0, some (a0b false (.sl 107 4 ((x.filter (a1z r)).length) ((x.filter (a1z r)).flatMap a0A))))]⟩) (a0e ⟨rfl, trivial⟩ trivial ⟨(congrArg (fun n : Nat => some (some (KC.mk false 107 4 n ((x.filter (a1z r)).flatMap a0A)))) hi2), trivial⟩ rfl) ?_
   refine z ?_
   refine a1p (a0i rfl) ?_
   exact ⟨rfl, rfl⟩
theorem b5z {x : a0P} {r : a3S} (hb : a0T x ≤ 1099511627776) : KFn Tryz.prog 131 [.agg [(.dv [] (.str (x.1))), (.dv [] (a0n (x.2.1))), (.dv [] (.int .i64 (x.2.2)))], .agg [(.dv [] (.bool (r.1))), (.dv [] (.bool (r.2.1))), (.dv [] (.int .i64 (r.2.2.1.1))), (.dv [] (.int .i64 (r.2.2.1.2.1))), (.dv [] (.str (r.2.2.1.2.2))), (.dv [] (.int .i64 (r.2.2.2.1))), (.dv [] (.int .i64 (r.2.2.2.2.1))), (.dv [] (.str (r.2.2.2.2.2)))]] (.tup [(true, [(.dv [] (.str ((a1L x r).1.1))), (.key 9001), (.dv [] (.int .i64 ((a1L x r).1.2.2)))]), (false, [(.dv [] (.int .i64 ((a1L x r).2)))])]) [(9001, some (a0b false (a0n ((a1L x r).1.2.1))))] := by
 refine ⟨a0v Tryz.func131 rfl Tryz.ntmps131 Tryz.results131 rfl (fun C => ?_)⟩
 have hlen : x.2.1.length ≤ 1099511627776 := by have h3 : a0T x = x.1.size + (x.2.1.length + wSum a1e x.2.1) := rfl; omega
 have hfl := List.length_filter_le (a1z r) x.2.1
 refine yF 0 0 rfl rfl fun f0_0 => ?_
 refine yF 0 1 rfl rfl fun f0_1 => ?_
 refine yF 0 2 rfl rfl fun f0_2 => ?_
 refine yF 1 2 rfl rfl fun f1_2 => ?_
 refine yF 1 3 rfl rfl fun f1_3 => ?_
 refine yF 1 4 rfl rfl fun f1_4 => ?_
 refine yF 1 5 rfl rfl fun f1_5 => ?_
 refine yF 1 6 rfl rfl fun f1_6 => ?_
 refine yF 1 7 rfl rfl fun f1_7 => ?_
 iterate 8 refine z ?_
 refine zK 8971 Tryz.call46 ?_ (hf := a6x (x := x) (by omega))
 iterate 6 refine z ?_
 refine zC Tryz.call93 ?_ (hf := a7Y (s := x) )
 iterate 2 refine z ?_
 refine yQ rfl (fun c1 => ?_) fun c1 => ?_
 ·iterate 5 refine z ?_
  rw [b9w c1]
  refine a0h (σ' := ⟨[(4, .box 4 0), (5, .one (.dv [] (.int .i64 (0))))], [(4, 67, [(.dv [] (.str ((x).1))), (.key 9001), (.dv [] (.int .i64 ((x).2.2)))])], [(9001, some (a0b false (a0n (x.2.1))))]⟩) (a0e ⟨rfl, rfl, trivial⟩ ⟨rfl, trivial⟩ ⟨rfl, trivial⟩ rfl) ?_
  iterate 2 refine z ?_
  refine a1h (a0F hT rfl rfl rfl rfl) (a0i rfl) rfl rfl ?_
  first | exact ⟨rfl, rfl⟩ | skip
 ·iterate 5 refine z ?_
  refine yO rfl rfl (b0P rfl (a0a rfl)) rfl ?_
  refine c5A (k := 9001) rfl rfl rfl rfl Tryz.call149 (c1z (x := x.2.1) (r := r) (by omega)) (a0a rfl) rfl (rfl) rfl (c7g (a0a rfl) (c2B (b1o rfl rfl b2r)) c4c) ?_
  simp only [a0l, a0j, SV.kill, CV.kill, kk, Nat.reduceBEq]
  iterate 3 refine z ?_
  refine a0q ?_
  refine b0s 4 (oB := [2, 3, 6]) (oK := [9001]) (by kernel_rfl) rfl rfl ?_
  refine a1F 0 rfl (by kernel_rfl) rfl rfl (a6B hT rfl rfl (a0a rfl) rfl rfl) rfl rfl rfl rfl rfl ?_
  refine a1F 1 rfl (by kernel_rfl) rfl rfl (a6w hT rfl rfl rfl (a0a rfl)) rfl rfl rfl rfl rfl ?_
  refine a1F 2 rfl (by kernel_rfl) rfl rfl (a4N hT rfl rfl (a0a rfl) rfl rfl) rfl rfl rfl rfl rfl ?_
  refine a1F 3 rfl (by kernel_rfl) rfl rfl (a9s hT rfl rfl (a0a rfl)) rfl rfl rfl rfl rfl ?_
  refine a1F 4 rfl (by kernel_rfl) rfl rfl (a6w hT rfl rfl rfl (a0a rfl)) rfl rfl rfl rfl rfl ?_
  refine a1F 5 rfl (by kernel_rfl) rfl rfl (a4N hT rfl rfl (a0a rfl) rfl rfl) rfl rfl rfl rfl rfl ?_
  refine a1F 6 rfl (by kernel_rfl) rfl rfl (a2S (n := ((x.2.1.filter (a1z r)).length)) hT rfl rfl (a0a rfl) rfl rfl) rfl rfl rfl rfl rfl ?_
  refine a1F 7 rfl (by kernel_rfl) rfl rfl (a9y rfl (a0a rfl) (a0a rfl) (a2y (by omega) (by omega))) rfl rfl rfl rfl rfl ?_
  refine a9n 8 rfl (by kernel_rfl) rfl hT rfl rfl rfl (a0a rfl) (a0a rfl) rfl rfl rfl rfl rfl rfl ?_
  refine a9o [9] rfl rfl (by kernel_rfl) ?_
  iterate 2 refine z ?_
  rw [b7l c1]
  refine a0h (σ' := ⟨[(4, .box 4 0), (5, .one (.dv [] (.int .i64 (((((x.2.1)).length : Int)) - ((((x.2.1.filter (a1z r)).length) : Int))))))], [(4, 67, [(.dv [] (.str ((x).1))), (.key 9001), (.dv [] (.int .i64 ((x).2.2)))])], [(9001, some (a0b false (a0n (x.2.1.filter (a1z r)))))]⟩) (a0e ⟨rfl, rfl, trivial⟩ ⟨rfl, trivial⟩ ⟨rfl, trivial⟩ rfl) ?_
  refine z ?_
  refine a1h (a0F hT rfl rfl rfl rfl) (a0i rfl) rfl rfl ?_
  first | exact ⟨rfl, rfl⟩ | skip
theorem b6j {x : a0P} {r : a3S} (hb : a0T x ≤ 1099511627776) : KFn Tryz.prog 113 [.agg [(.dv [] (.str (x.1))), (.dv [] (a0n (x.2.1))), (.dv [] (.int .i64 (x.2.2)))], .agg [(.dv [] (.bool (r.1))), (.dv [] (.bool (r.2.1))), (.dv [] (.int .i64 (r.2.2.1.1))), (.dv [] (.int .i64 (r.2.2.1.2.1))), (.dv [] (.str (r.2.2.1.2.2))), (.dv [] (.int .i64 (r.2.2.2.1))), (.dv [] (.int .i64 (r.2.2.2.2.1))), (.dv [] (.str (r.2.2.2.2.2)))]] (.tup [(true, [(.dv [] (.str ((a1L x r).1.1))), (.key 9001), (.dv [] (.int .i64 ((a1L x r).1.2.2)))]), (false, [(.dv [] (.int .i64 ((a1L x r).2)))])]) [(9001, some (a0b false (a0n ((a1L x r).1.2.1))))] := by
 refine ⟨a0v Tryz.func113 rfl Tryz.ntmps113 Tryz.results113 rfl (fun C => ?_)⟩
 have hlen : x.2.1.length ≤ 1099511627776 := by have h3 : a0T x = x.1.size + (x.2.1.length + wSum a1e x.2.1) := rfl; omega
 have hfl := List.length_filter_le (a1z r) x.2.1
 refine yF 0 0 rfl rfl fun f0_0 => ?_
 refine yF 0 1 rfl rfl fun f0_1 => ?_
 refine yF 0 2 rfl rfl fun f0_2 => ?_
 refine yF 1 2 rfl rfl fun f1_2 => ?_
 refine yF 1 3 rfl rfl fun f1_3 => ?_
 refine yF 1 4 rfl rfl fun f1_4 => ?_
 refine yF 1 5 rfl rfl fun f1_5 => ?_
 refine yF 1 6 rfl rfl fun f1_6 => ?_
 refine yF 1 7 rfl rfl fun f1_7 => ?_
 iterate 9 refine z ?_
 refine zC Tryz.call73 ?_ (hf := b2z (s := x) )
 iterate 2 refine z ?_
 refine yQ rfl (fun c1 => ?_) fun c1 => ?_
 ·iterate 2 refine z ?_
  refine zK 8971 Tryz.call35 ?_ (hf := a7F (x := x) (by omega))
  iterate 3 refine z ?_
  rw [b9w c1]
  refine a0h (σ' := ⟨[(4, .box 4 0), (5, .one (.dv [] (.int .i64 (0))))], [(4, 67, [(.dv [] (.str ((x).1))), (.key 9001), (.dv [] (.int .i64 ((x).2.2)))])], [(9001, some (a0b false (a0n (x.2.1))))]⟩) (a0e ⟨rfl, rfl, trivial⟩ ⟨rfl, trivial⟩ ⟨rfl, trivial⟩ rfl) ?_
  iterate 2 refine z ?_
  refine a1h (a0F hT rfl rfl rfl rfl) (a0i rfl) rfl rfl ?_
  exact ⟨rfl, rfl⟩
 ·iterate 7 refine z ?_
  refine yO rfl rfl (a1x hT hB rfl rfl rfl (a1r (a0a rfl) rfl rfl rfl rfl rfl (a1r (a0a rfl) rfl rfl rfl rfl rfl a1w))) rfl ?_
  iterate 3 refine z ?_
  refine a0q ?_
  refine a0q ?_
  refine a0h (a4h 9001 (b := 6) (i := 1) (e := 107) (sz := 4) rfl rfl rfl rfl rfl) ?_
  simp only [a0l, a0j, SV.kill, CV.kill, kk, Nat.reduceBEq]
  refine a0k ?_
  iterate 3 refine z ?_
  refine a0X (ι := Nat) (fun zz => ⟨[(2, .box 2 0), (3, .box 3 0), (4, .box 4 0), (5, .one (.dv [] (.int .i64 (0)))), (6, .box 6 0), (7, .one (.dv [] (.int .i64 ((zz : Int)))))], [(2, 67, [(.dv [] (.str (x.1))), (.dv [] (a0n (x.2.1))), (.dv [] (.int .i64 (x.2.2)))]), (3, 149, [(.dv [] (.bool (r.1))), (.dv [] (.bool (r.2.1))), (.dv [] (.int .i64 (r.2.2.1.1))), (.dv [] (.int .i64 (r.2.2.1.2.1))), (.dv [] (.str (r.2.2.1.2.2))), (.dv [] (.int .i64 (r.2.2.2.1))), (.dv [] (.int .i64 (r.2.2.2.2.1))), (.dv [] (.str (r.2.2.2.2.2)))]), (4, 67, [(.dv [] (.str (ByteArray.empty))), .nil, (.dv [] (.int .i64 (0)))]), (6, 67, [(.dv [] (.str (x.1))), (.key 9001), (.dv [] (.int .i64 (x.2.2)))])], [(9001, some (a0b false (.sl 107 4 (((x.2.1.take zz).filter (a1z r)).length) (((x.2.1.take zz).filter (a1z r)).flatMap a0A))))]⟩) (fun zz => zz ≤ x.2.1.length) (fun zz => x.2.1.length - zz) (0) ?_ (a0e ⟨rfl, rfl, rfl, rfl, rfl, rfl, trivial⟩ ⟨rfl, rfl, rfl, rfl, trivial⟩ ⟨rfl, trivial⟩ rfl) (fun zz hx => ?_)
  ·exact Nat.zero_le _
  obtain ⟨k, rfl⟩ : ∃ v, v = zz := ⟨_, rfl⟩
  replace hx : k ≤ x.2.1.length := hx
  have hw := fun h => a2T a1e x.2.1 k h
  show Ok _ _ _ _ _ (⟨[(2, .box 2 0), (3, .box 3 0), (4, .box 4 0), (5, .one (.dv [] (.int .i64 (0)))), (6, .box 6 0), (7, .one (.dv [] (.int .i64 ((k : Int)))))], [(2, 67, [(.dv [] (.str (x.1))), (.dv [] (a0n (x.2.1))), (.dv [] (.int .i64 (x.2.2)))]), (3, 149, [(.dv [] (.bool (r.1))), (.dv [] (.bool (r.2.1))), (.dv [] (.int .i64 (r.2.2.1.1))), (.dv [] (.int .i64 (r.2.2.1.2.1))), (.dv [] (.str (r.2.2.1.2.2))), (.dv [] (.int .i64 (r.2.2.2.1))), (.dv [] (.int .i64 (r.2.2.2.2.1))), (.dv [] (.str (r.2.2.2.2.2)))]), (4, 67, [(.dv [] (.str (ByteArray.empty))), .nil, (.dv [] (.int .i64 (0)))]), (6, 67, [(.dv [] (.str (x.1))), (.key 9001), (.dv [] (.int .i64 (x.2.2)))])], [(9001, some (a0b false (.sl 107 4 (((x.2.1.take k).filter (a1z r)).length) (((x.2.1.take k).filter (a1z r)).flatMap a0A))))]⟩ : St)
  iterate 8 refine z ?_
  refine yQ rfl (fun c2 => ?_) fun c2 => ?_
  ·have d2 := of_decide_eq_true c2
   have hk2 : k < x.2.1.length := by omega
   have hrec : a1e (x.2.1.getD (k : Int).toNat default) ≤ 1099511627776 := by have := hw hk2; have h3 : a0T x = x.1.size + (x.2.1.length + wSum a1e x.2.1) := rfl; omega
   iterate 4 refine z ?_
   refine a0q ?_
   refine a1M (oB := [2, 3, 4, 6]) (oK := [9001]) (by kernel_rfl) rfl rfl ?_
   refine zD 0 ?_
   refine zD 1 ?_
   refine zD 2 ?_
   refine zD 3 ?_
   refine zD 4 ?_
   refine zD 5 ?_
   refine zD 6 ?_
   refine a3D 7 rfl (by kernel_rfl) rfl rfl rfl Tryz.call138 (c7Z (x := (((x.2.1)).getD ((k : Int)).toNat default).1) (y := r) ) (a0g (a0a rfl) (a0s (a0d a0c (a0d a0c (a0d a0c a0r)))) (a0g (a0a rfl) (a0s (a0d a0c (a0d a0c (a0d a0c (a0d a0c (a0d a0c (a0d a0c (a0d a0c (a0d a0c a0r))))))))) a0m)) rfl rfl rfl rfl ?_
   refine zD 8 ?_
   refine a1J (by kernel_rfl) ?_
   refine z ?_
   refine yQ rfl (fun c3 => ?_) fun c3 => ?_
   ·have hq : a1z r (x.2.1.getD (k : Int).toNat default) = true := c3
    refine a5I [0, 1, 2, 3, 4, 5, 6, 7, 8] (oB := [2, 3, 4, 6]) (oK := [9001]) (by kernel_rfl) rfl rfl ?_
    refine zD 0 ?_
    refine zD 1 ?_
    refine zD 2 ?_
    refine zD 3 ?_
    refine zD 4 ?_
    refine zD 5 ?_
    refine zD 6 ?_
    refine a2j 41000 7 rfl (by kernel_rfl) rfl rfl rfl Tryz.call63 (b4C (x := (x.2.1.getD (k : Int).toNat default)) (by exact Nat.le_trans (a5Q _) hrec)) (a0g (a0a rfl) (a0s (a0d a0c (a0d a0c (a0d a0c (a0d a0c a0r))))) a0m) rfl rfl rfl rfl rfl ?_
    refine a7c (k := 42) (js := [48003]) 8 hT rfl (by kernel_rfl) rfl rfl rfl rfl rfl rfl rfl rfl rfl (a0a rfl) rfl rfl (a0t (a0W rfl) (a0t (a0W rfl) (a0t (a0W rfl) (a0t (a1i rfl) a1m rfl) rfl) rfl) rfl) (by decide) (by decide) rfl rfl (by decide) ?_
    simp only [a0l, a0j, SV.kill, CV.kill, kk, Nat.reduceBEq]
    refine a4d [9, 10, 11] rfl rfl (by kernel_rfl) ?_
    refine a3l (k := 9001) (j := 42) (cs := ((x.2.1.take (k + 1)).filter (a1z r)).flatMap a0A) (n := ((x.2.1.take (k + 1)).filter (a1z r)).length) hT rfl rfl rfl rfl rfl rfl rfl (a0a rfl) rfl rfl rfl (a0a rfl) rfl rfl (by decide) (by have := List.length_filter_le (a1z r) (x.2.1.take k); rw [List.length_take] at this; dsimp only [a0b]; omega) (by have := List.length_filter_le (a1z r) (x.2.1.take k); rw [List.length_take] at this; dsimp only [a0b]; omega) ((b7W hk2 hq).2) ((b7W hk2 hq).1) ?_
    simp only [a0l, a0j, SV.kill, CV.kill, kk, Nat.reduceBEq]
    iterate 2 refine z ?_
    refine a1t ?_
    iterate 2 refine z ?_
    refine a0k ?_
    iterate 4 refine z ?_
    refine ⟨k + 1, ?_, ?_, a0e ⟨rfl, rfl, rfl, rfl, rfl, rfl, trivial⟩ ⟨rfl, rfl, rfl, rfl, trivial⟩ ⟨rfl, trivial⟩ rfl⟩
    ·omega
    ·omega
   ·have hq : a1z r (x.2.1.getD (k : Int).toNat default) = false := c3
    iterate 3 refine z ?_
    refine a0k ?_
    iterate 4 refine z ?_
    refine ⟨k + 1, ?_, ?_, a0e ⟨rfl, rfl, rfl, rfl, rfl, rfl, trivial⟩ ⟨rfl, rfl, rfl, rfl, trivial⟩ ⟨(congrArg (fun l : List a0L => some (some (KC.mk false 107 4 l.length (l.flatMap a0A)))) (c5u hk2 hq)), trivial⟩ rfl⟩
    ·omega
    ·omega
  ·have d2 := of_decide_eq_false c2
   have hfin : ((x.2.1.take k).filter (a1z r)) = (x.2.1.filter (a1z r)) := by rw [List.take_of_length_le (by omega)]
   have hfl2 : ((x.2.1.take k).filter (a1z r)).length ≤ x.2.1.length := by rw [hfin]; exact hfl
   iterate 5 refine z ?_
   refine a0q ?_
   refine b0s 4 (oB := [2, 3, 6]) (oK := [9001]) (by kernel_rfl) rfl rfl ?_
   refine a1F 0 rfl (by kernel_rfl) rfl rfl (a6B hT rfl rfl (a0a rfl) rfl rfl) rfl rfl rfl rfl rfl ?_
   refine a1F 1 rfl (by kernel_rfl) rfl rfl (a6w hT rfl rfl rfl (a0a rfl)) rfl rfl rfl rfl rfl ?_
   refine a1F 2 rfl (by kernel_rfl) rfl rfl (a4N hT rfl rfl (a0a rfl) rfl rfl) rfl rfl rfl rfl rfl ?_
   refine a1F 3 rfl (by kernel_rfl) rfl rfl (a9s hT rfl rfl (a0a rfl)) rfl rfl rfl rfl rfl ?_
   refine a1F 4 rfl (by kernel_rfl) rfl rfl (a6w hT rfl rfl rfl (a0a rfl)) rfl rfl rfl rfl rfl ?_
   refine a1F 5 rfl (by kernel_rfl) rfl rfl (a4N hT rfl rfl (a0a rfl) rfl rfl) rfl rfl rfl rfl rfl ?_
   refine a1F 6 rfl (by kernel_rfl) rfl rfl (a2S (n := (((x.2.1.take k).filter (a1z r)).length)) hT rfl rfl (a0a rfl) rfl rfl) rfl rfl rfl rfl rfl ?_
   refine a1F 7 rfl (by kernel_rfl) rfl rfl (a9y rfl (a0a rfl) (a0a rfl) (a2y (by omega) (by omega))) rfl rfl rfl rfl rfl ?_
   refine a9n 8 rfl (by kernel_rfl) rfl hT rfl rfl rfl (a0a rfl) (a0a rfl) rfl rfl rfl rfl rfl rfl ?_
   refine a9o [9] rfl rfl (by kernel_rfl) ?_
   iterate 2 refine z ?_
   rw [b7l c1]
   refine a0h (σ' := ⟨[(4, .box 4 0), (5, .one (.dv [] (.int .i64 (((((x.2.1)).length : Int)) - (((((x.2.1.take k).filter (a1z r)).length) : Int))))))], [(4, 67, [(.dv [] (.str (x.1))), (.key 9001), (.dv [] (.int .i64 (x.2.2)))])], [(9001, some (a0b false (a0n (x.2.1.filter (a1z r)))))]⟩) (a0e ⟨rfl, rfl, trivial⟩ ⟨rfl, trivial⟩ ⟨(congrArg (fun l : List a0L => some (some (KC.mk false 107 4 l.length (l.flatMap a0A)))) hfin), trivial⟩ rfl) ?_
   refine z ?_
   refine a1h (a0F hT rfl rfl rfl rfl) (a0i rfl) rfl rfl ?_
   exact ⟨by rw [hfin], rfl⟩
theorem c0x : ∀ x : List UInt8, Op.bytesLess x x = false
 | [] => rfl
 | a :: x => by simp [Op.bytesLess, c0x x]
theorem b7B : ∀ x y z : List UInt8, Op.bytesLess x y = true → Op.bytesLess y z = true → Op.bytesLess x z = true
 | x, [], z, h, _ => by cases x <;> simp [Op.bytesLess] at h
 | x, b :: y, [], _, h => by simp [Op.bytesLess] at h
 | [], b :: y, c :: z, _, _ => rfl
 | a :: x, b :: y, c :: z, h1, h2 => by
  simp only [Op.bytesLess, Bool.or_eq_true, decide_eq_true_eq, Bool.and_eq_true, beq_iff_eq] at h1 h2 ⊢
  rcases h1 with h1 | ⟨rfl, h1⟩
  ·rcases h2 with h2 | ⟨rfl, h2⟩
   ·exact .inl (UInt8.lt_trans h1 h2)
   ·exact .inl h1
  ·rcases h2 with h2 | ⟨rfl, h2⟩
   ·exact .inl h2
   ·exact .inr ⟨rfl, b7B x y z h1 h2⟩
def a2k (n : Str) : a0y → Nat
 | [] => 0
 | y :: ys => if sLt y.1 n then a2k n ys + 1 else 0
def a3F (l : a0y) (i : Nat) (v : Int) : a0y := l.set i ((l.getD i default).1, v)
def a2t (l : a0y) (j : Nat) (y : a3c) : a0y := l.take j ++ y :: l.drop j
def a5K (n : Str) (r : a0y) : Bool := decide (a2k n r < r.length) && sEq (r.getD (a2k n r) default).1 n
def a4F (r : a0y) (n : Str) (v : Int) : a0y := if a5K n r then a3F r (a2k n r) v else a2t r (a2k n r) (n, v)
def a1I (r : a0y) (n : Str) (v : Int) : a0y × Bool := if !a1j r || !a1j (a4F r n v) then (r, false) else (a4F r n v, true)
theorem b2k {r o : a0y} {n : Str} {v : Int} (ho : a1j r = true → o = a4F r n v) (h : (!a1j r || !a1j o) = true) : a1I r n v = (r, false) := by
 unfold a1I
 by_cases hr : a1j r = true
 ·rw [← ho hr, if_pos h]
 ·rw [if_pos (by simp [hr])]
theorem b2m {r o : a0y} {n : Str} {v : Int} (ho : a1j r = true → o = a4F r n v) (h : (!a1j r || !a1j o) = false) : a1I r n v = (o, true) := by
 have hr : a1j r = true := by cases hh : a1j r <;> simp_all
 rw [a1I, ← ho hr, if_neg (by rw [h]; simp)]
theorem b2O {l : a0y} {j : Nat} (h : j < l.length) : l.drop j = l.getD j default :: l.drop (j + 1) := by
 rw [List.drop_eq_getElem_cons h]
 simp [List.getD, List.getElem?_eq_getElem h]
def srt : a0y → Prop
 | [] => True
 | y :: ys => (∀ z ∈ ys, sLt y.1 z.1 = true) ∧ srt ys
theorem b6m {r : a0y} (h : a1j r = true) (i : Nat) (hi : i + 1 < r.length) : sLt (r.getD i default).1 (r.getD (i + 1) default).1 = true := by
 rw [a1j, Bool.and_eq_true, List.all_eq_true] at h
 have := h.1 (i + 1) (List.mem_range.2 hi)
 simp only [a4T, Bool.not_eq_true', Bool.or_eq_false_iff, Int.toNat_natCast] at this
 have h2 := this.2
 rw [decide_eq_true (by omega : (0 : Int) < ((i + 1 : Nat) : Int)), Bool.true_and, a8r, show (((i + 1 : Nat) : Int) - 1).toNat = i by omega] at h2
 simpa using h2
theorem b3B : ∀ (l : a0y), (∀ i, i + 1 < l.length → sLt (l.getD i default).1 (l.getD (i + 1) default).1 = true) → srt l
 | [], _ => trivial
 | [y], _ => ⟨by simp, trivial⟩
 | y :: z :: l, h => by
  have ih := b3B (z :: l) (fun i hi => by have := h (i + 1) (by simp only [List.length_cons] at hi ⊢; omega); simpa using this)
  have h0 : sLt y.1 z.1 = true := by simpa using h 0 (by simp)
  refine ⟨fun u hu => ?_, ih⟩
  rcases List.mem_cons.1 hu with rfl | hu
  ·exact h0
  ·exact b7B _ _ _ h0 (ih.1 u hu)
theorem b6a {a b n : Str} (h : sEq a b = true) : sLt n a = sLt n b ∧ sLt a n = sLt b n := by
 have : a.toList = b.toList := by simpa [sEq] using h
 exact ⟨by unfold sLt; rw [this], by unfold sLt; rw [this]⟩
theorem b2Q {n : Str} : ∀ (r : a0y) (i : Int), 0 ≤ i → srt r → (∃ k : Nat, k < r.length ∧ a0u (a1Q n) r i = i + (k : Int) ∧ a2k n r = k ∧ sEq (r.getD k default).1 n = true) ∨ (a0u (a1Q n) r i = -1 ∧ a5K n r = false)
 | [], i, _, _ => .inr ⟨rfl, rfl⟩
 | y :: ys, i, hi, hs => by
  by_cases he : sEq y.1 n = true
  ·refine .inl ⟨0, by simp, by rw [a0u, if_pos (show a1Q n y = true from he)]; simp, ?_, by simpa using he⟩
   rw [a2k, if_neg]
   rw [(b6a (n := n) he).2]
   simp [sLt, c0x]
  ·have hf : a0u (a1Q n) (y :: ys) i = a0u (a1Q n) ys (i + 1) := by rw [a0u, if_neg (show ¬ a1Q n y = true from he)]
   by_cases hl : sLt y.1 n = true
   ·rcases b2Q ys (i + 1) (by omega) hs.2 with ⟨k, h1, h2, h3, h4⟩ | ⟨h1, h2⟩
    ·exact .inl ⟨k + 1, by simpa using h1, by rw [hf, h2]; omega, by rw [a2k, if_pos hl, h3], by simpa using h4⟩
    ·refine .inr ⟨by rw [hf, h1], ?_⟩
     unfold a5K at h2 ⊢
     rw [a2k, if_pos hl]
     simpa using h2
   ·refine .inr ⟨?_, ?_⟩
    ·rw [hf]
     rcases a9G (p := a1Q n) (d := default) ys (i + 1) (by omega) with ⟨h1, _⟩ | ⟨m, h1, _, _, h4⟩
     ·exact h1
     ·exfalso
      have hm : ys.getD m default ∈ ys := by simp [List.getD, List.getElem?_eq_getElem h1]
      have := hs.1 _ hm
      rw [(b6a (n := y.1) h4).1] at this
      exact hl this
    ·unfold a5K
     rw [a2k, if_neg hl]
     simp [he]
theorem b6A {r : a0y} {n : Str} {v : Int} (hr : a1j r = true) (h : 0 ≤ a0u (a1Q n) r 0) : a3F r (a0u (a1Q n) r 0).toNat v = a4F r n v := by
 rcases b2Q (n := n) r 0 (by omega) (b3B r (b6m hr)) with ⟨k, h1, h2, h3, h4⟩ | ⟨h1, _⟩
 ·have hh : a5K n r = true := by unfold a5K; rw [h3, h4, decide_eq_true h1]; rfl
  rw [a4F, if_pos hh, h3, h2]
  congr 1; omega
 ·omega
theorem b9e {r : a0y} {n : Str} {v : Int} {j : Nat} (hr : a1j r = true) (h : ¬ 0 ≤ a0u (a1Q n) r 0) (hj : a2k n r = j) : a2t r j (n, v) = a4F r n v := by
 rcases b2Q (n := n) r 0 (by omega) (b3B r (b6m hr)) with ⟨k, h1, h2, h3, h4⟩ | ⟨_, h1⟩
 ·omega
 ·rw [a4F, if_neg (by rw [h1]; simp), hj]
theorem c0c {r : a0y} {n : Str} {v : Int} {j : Nat} (hj : a2k n r = j) (h : (decide ((j : Int) < (r.length : Int)) && sEq (r.getD (j : Int).toNat default).1 n) = true) : a3F r j v = a4F r n v := by
 have hh : a5K n r = true := by
  rw [Bool.and_eq_true, decide_eq_true_eq, Int.toNat_natCast] at h
  unfold a5K; rw [hj, h.2, decide_eq_true (by omega)]; rfl
 rw [a4F, if_pos hh, hj]
theorem b7f {r : a0y} {n : Str} {v : Int} {j : Nat} (hj : a2k n r = j) (h : (decide ((j : Int) < (r.length : Int)) && sEq (r.getD (j : Int).toNat default).1 n) = false) : a2t r j (n, v) = a4F r n v := by
 have hh : a5K n r = false := by
  rw [Int.toNat_natCast] at h
  unfold a5K; rw [hj]
  by_cases hl : j < r.length
  ·rw [decide_eq_true (by omega : (j : Int) < (r.length : Int))] at h; rw [decide_eq_true hl]; exact h
  ·rw [decide_eq_false hl]; rfl
 rw [a4F, if_neg (by rw [hh]; simp), hj]
theorem b7b {n : Str} {l : a0y} {j : Nat} (hp : a2k n l = j + a2k n (l.drop j)) (h : (decide ((j : Int) < (l.length : Int)) && sLt (l.getD (j : Int).toNat default).1 n) = true) : j < l.length ∧ a2k n l = (j + 1) + a2k n (l.drop (j + 1)) := by
 obtain ⟨h1, h2⟩ := (Bool.and_eq_true _ _ ▸ h : _ ∧ _)
 have h1 := of_decide_eq_true h1
 rw [Int.toNat_natCast] at h2
 have h3 : j < l.length := by omega
 refine ⟨h3, ?_⟩
 rw [hp, b2O h3, a2k, if_pos h2]
 omega
theorem b7F {n : Str} {l : a0y} {j : Nat} (hj : j ≤ l.length) (hp : a2k n l = j + a2k n (l.drop j)) (h : (decide ((j : Int) < (l.length : Int)) && sLt (l.getD (j : Int).toNat default).1 n) = false) : a2k n l = j := by
 rcases Nat.lt_or_ge j l.length with h3 | h3
 ·rw [decide_eq_true (by omega : (j : Int) < (l.length : Int)), Bool.true_and, Int.toNat_natCast] at h
  rw [hp, b2O h3, a2k, if_neg (by rw [h]; simp)]
  omega
 ·rw [hp, List.drop_eq_nil_of_le h3, a2k]; omega
theorem b3M (l : a0y) : (l.flatMap a1d).length = l.length * 2 := a5d (enc := a1d) (sz := 2) (fun _ => rfl) l
theorem b2C {l : a0y} {i : Nat} {v : Int} : (a3F l i v).length = l.length := by simp [a3F]
theorem b5o {l : a0y} {i : Nat} {v : Int} (hi : i < l.length) : a1a (i * 2 + 1) [DV.int .i64 v] (l.flatMap a1d) = (a3F l i v).flatMap a1d := by
 have e : l.flatMap a1d = (l.take i).flatMap a1d ++ (a1d (l.getD i default) ++ (l.drop (i + 1)).flatMap a1d) := by
  rw [← List.flatMap_cons, ← b2O hi, ← List.flatMap_append, List.take_append_drop]
 have e2 : (a3F l i v).flatMap a1d = (l.take i).flatMap a1d ++ (a1d ((l.getD i default).1, v) ++ (l.drop (i + 1)).flatMap a1d) := by
  rw [a3F, List.set_eq_take_append_cons_drop, if_pos hi, List.flatMap_append, List.flatMap_cons]
 have hl : ((l.take i).flatMap a1d).length = i * 2 := by rw [b3M, List.length_take]; omega
 rw [e, e2]
 exact a4I (pre := (l.take i).flatMap a1d) (B := a1d (l.getD i default)) (B' := a1d ((l.getD i default).1, v)) (post := (l.drop (i + 1)).flatMap a1d) (m := i * 2) (off := i * 2 + 1) (j := 1) hl rfl rfl (Nat.le_refl _)
theorem c0b {l : a0y} {j : Nat} {y : a3c} : (a2t l j y).length = l.length + 1 := by simp [a2t]; omega
theorem c4H {o : a0y} {j : Nat} {y : a3c} : a5A (o.flatMap a1d) ((j : Int).toNat * 2) (a1d y) = (a2t o j y).flatMap a1d := by
 obtain ⟨h1, h2⟩ := a7I (enc := a1d) (sz := 2) (fun _ => rfl) j o
 rw [Int.toNat_natCast, a5A, a2t, List.flatMap_append, List.flatMap_cons, h1, h2, List.append_assoc]
theorem b2d (r : a0y) (n : Str) (v : Int) : (a1I r n v).1.length ≤ r.length + 1 := by
 unfold a1I a4F
 repeat' split
 all_goals first | (show r.length ≤ _; omega) | (simp only [b2C, c0b]; omega)
theorem b1s {r : a0y} {n : Str} {v : Int} (hb : r.length ≤ 1099511627776) : KFn Tryz.prog 132 [.agg [(.dv [] (a0w (r)))], .one (.dv [] (.str (n))), .one (.dv [] (.int .i64 (v)))] (.tup [(true, [(.key 9001)]), (false, [(.dv [] (.bool ((a1I r n v).2)))])]) [(9001, some (a0b false (a0w ((a1I r n v).1))))] := by
 refine ⟨a0v Tryz.func132 rfl Tryz.ntmps132 Tryz.results132 rfl (fun C => ?_)⟩
 refine yF 0 0 rfl rfl fun f0_0 => ?_
 refine a0E (x := .tmp 1) (a0a rfl) fun f1 => ?_
 refine a0E (x := .tmp 2) (a0a rfl) fun f2 => ?_
 iterate 7 refine z ?_
 refine zK 8998 Tryz.call117 ?_ (hf := a7V (x := r) (by omega))
 iterate 7 refine z ?_
 refine zC Tryz.call146 ?_ (hf := b9x (x := r) (n := n) )
 iterate 6 refine z ?_
 refine yQ rfl (fun c1 => ?_) fun c1 => ?_
 ·have d1 := of_decide_eq_true c1
  have hlt : (a0u (a1Q n) r 0).toNat < r.length := by have := a7S (p := a1Q n) r 0 (by omega); omega
  refine a0k ?_
  iterate 4 refine z ?_
  refine yO rfl rfl (a2v (i := (a0u (a1Q (n)) (r) 0).toNat) hT rfl rfl rfl (a0a rfl) rfl (a0a rfl) (by omega) (by show _ < ((r)).length; omega)) rfl ?_
  refine z ?_
  refine a3g (js := []) (cs := (a3F r (a0u (a1Q n) r 0).toNat v).flatMap a1d) hT rfl rfl rfl rfl (a0a rfl) (a0a rfl) rfl rfl rfl rfl (a0t (a0W rfl) a1m rfl) (by decide) (by decide) rfl (by show _ ≤ List.length ((r).flatMap a1d); rw [b3M]; omega) (b5o (by omega)) ?_
  simp only [a0l, a0j, SV.kill, CV.kill, kk, Nat.reduceBEq]
  refine z ?_
  refine a0q ?_
  refine a0q ?_
  refine a0h (a5L (k := 9001) (c' := a0b false (a0w (a3F r (a0u (a1Q n) r 0).toNat v))) rfl (congrArg (fun m => KC.mk false 128 2 m ((a3F r (a0u (a1Q n) r 0).toNat v).flatMap a1d)) b2C.symm) rfl) ?_
  refine a0k ?_
  refine z ?_
  refine zC Tryz.call120 ?_ (hf := a7i (r := r) )
  iterate 3 refine z ?_
  refine a1N (a1A rfl rfl rfl rfl rfl) rfl rfl Tryz.call120 (a7i (r := a3F r (a0u (a1Q n) r 0).toNat v) ) (fun hg => (a0g (a0C rfl hg) (a0s (a0d (a0Q rfl rfl) a0r)) a0m)) rfl rfl ?_
  iterate 3 refine z ?_
  refine yQ rfl (fun c2 => ?_) fun c2 => ?_
  ·refine a0q ?_
   refine a0h (σ' := ⟨[(3, .box 3 0), (6, .box 6 0), (7, .one (.dv [] (.bool (false))))], [(3, 78, [(.dv [] (a0w (r)))]), (6, 78, [.nil])], []⟩) (a0e ⟨rfl, rfl, rfl, trivial⟩ ⟨rfl, rfl, trivial⟩ trivial rfl) ?_
   refine a0k ?_
   refine z ?_
   refine zK 8998 Tryz.call117 ?_ (hf := a7V (x := r) (by omega))
   iterate 3 refine z ?_
   rw [b2k (fun hr => b6A hr d1) c2]
   refine a0h (σ' := ⟨[(6, .box 6 0), (7, .one (.dv [] (.bool (false))))], [(6, 78, [(.key 9001)])], [(9001, some (a0b false (a0w (r))))]⟩) (a0e ⟨rfl, rfl, trivial⟩ ⟨rfl, trivial⟩ ⟨rfl, trivial⟩ rfl) ?_
   iterate 2 refine z ?_
   refine a1h (a0F hT rfl rfl rfl rfl) (a0i rfl) rfl rfl ?_
   first | exact ⟨rfl, rfl⟩ | skip
  ·iterate 7 refine z ?_
   rw [b2m (fun hr => b6A hr d1) c2]
   refine a0h (σ' := ⟨[(6, .box 6 0), (7, .one (.dv [] (.bool (true))))], [(6, 78, [(.key 9001)])], [(9001, some (a0b false (a0w (a3F r (a0u (a1Q n) r 0).toNat v))))]⟩) (a0e ⟨rfl, rfl, trivial⟩ ⟨rfl, trivial⟩ ⟨rfl, trivial⟩ rfl) ?_
   refine z ?_
   refine a1h (a0F hT rfl rfl rfl rfl) (a0i rfl) rfl rfl ?_
   first | exact ⟨rfl, rfl⟩ | skip
 ·have d1 := of_decide_eq_false c1
  iterate 5 refine z ?_
  refine a0X (ι := Nat) (fun zz => ⟨[(1, .one (.dv [] (.str (n)))), (2, .one (.dv [] (.int .i64 (v)))), (3, .box 3 0), (6, .box 6 0), (7, .one (.dv [] (.bool (false)))), (8, .box 8 0), (10, .one (.dv [] (.int .i64 ((zz : Int)))))], [(3, 78, [(.dv [] (a0w (r)))]), (6, 78, [.nil]), (8, 78, [(.key 9001)])], [(9001, some (a0b false (.sl 128 2 (r.length) (r.flatMap a1d))))]⟩) (fun zz => zz ≤ r.length ∧ a2k n r = zz + a2k n (r.drop zz)) (fun zz => r.length - zz) (0) ?_ (a0e ⟨rfl, rfl, rfl, rfl, rfl, rfl, rfl, trivial⟩ ⟨rfl, rfl, rfl, trivial⟩ ⟨rfl, trivial⟩ rfl) (fun zz hx => ?_)
  ·exact ⟨Nat.zero_le _, by simp⟩
  obtain ⟨j, rfl⟩ : ∃ v, v = zz := ⟨_, rfl⟩
  replace hx : j ≤ r.length ∧ a2k n r = j + a2k n (r.drop j) := hx
  obtain ⟨hj, hp⟩ := hx
  show Ok _ _ _ _ _ (⟨[(1, .one (.dv [] (.str (n)))), (2, .one (.dv [] (.int .i64 (v)))), (3, .box 3 0), (6, .box 6 0), (7, .one (.dv [] (.bool (false)))), (8, .box 8 0), (10, .one (.dv [] (.int .i64 ((j : Int)))))], [(3, 78, [(.dv [] (a0w (r)))]), (6, 78, [.nil]), (8, 78, [(.key 9001)])], [(9001, some (a0b false (.sl 128 2 (r.length) (r.flatMap a1d))))]⟩ : St)
  iterate 4 refine z ?_
  refine yO rfl rfl (b1C (dd := a0w r) (a4N hT rfl rfl (a0a rfl) rfl rfl) rfl rfl) rfl ?_
  iterate 4 refine z ?_
  refine b5g (a1A rfl rfl rfl rfl rfl) rfl (fun hg => b1C (dd := a0w r) (a4N hT rfl rfl (a0C rfl hg) rfl rfl) rfl rfl) rfl rfl ?_
  iterate 8 refine z ?_
  refine yQ rfl (fun c3 => ?_) fun c3 => ?_
  ·have hst := b7b hp c3
   have hst1 := hst.1
   iterate 3 refine z ?_
   refine a0k ?_
   iterate 3 refine z ?_
   refine a1t ?_
   iterate 2 refine z ?_
   refine ⟨j + 1, ?_, ?_, a0e ⟨rfl, rfl, rfl, rfl, rfl, rfl, rfl, trivial⟩ ⟨rfl, rfl, rfl, trivial⟩ ⟨rfl, trivial⟩ rfl⟩
   ·exact ⟨by omega, hst.2⟩
   ·omega
  ·have hpos := b7F hj hp c3
   iterate 5 refine z ?_
   refine a0k ?_
   iterate 5 refine z ?_
   refine yO rfl rfl (a1x hT hB rfl rfl rfl (a1r (a0a rfl) rfl rfl rfl rfl rfl (a1r (a0a rfl) rfl rfl rfl rfl rfl a1w))) rfl ?_
   refine a3B (k := 47) (js := []) hT rfl rfl rfl rfl rfl rfl rfl rfl rfl (a0a rfl) rfl rfl (a0t (a0W rfl) (a0t (a0W rfl) a1m rfl) rfl) (by decide) (by decide) rfl rfl ?_
   simp only [a0l, a0j, SV.kill, CV.kill, kk, Nat.reduceBEq]
   refine b2T (k := 9001) (j := 47) (cs := (a2t r j (n, v)).flatMap a1d) (n := (a2t r j (n, v)).length) (c5H rfl rfl (by decide)) rfl rfl Tryz.call152 rfl rfl (a0a rfl) rfl rfl rfl (a0a rfl) (by omega) (by dsimp only [a0b]; omega) (a0a rfl) rfl rfl rfl rfl (by decide) (by dsimp only [a0b]; omega) (by dsimp only [a0b]; omega) (by rw [c0b]) (c4H (o := r) (j := j) (y := (n, v))) ?_
   simp only [a0l, a0j, SV.kill, CV.kill, kk, Nat.reduceBEq]
   iterate 3 refine z ?_
   refine a0q ?_
   refine a0q ?_
   refine a0h (a5L (k := 9001) (c' := a0b false (a0w (a2t r j (n, v)))) rfl (rfl) rfl) ?_
   refine a0k ?_
   refine z ?_
   refine zC Tryz.call120 ?_ (hf := a7i (r := r) )
   iterate 3 refine z ?_
   refine a1N (a1A rfl rfl rfl rfl rfl) rfl rfl Tryz.call120 (a7i (r := a2t r j (n, v)) ) (fun hg => (a0g (a0C rfl hg) (a0s (a0d (a0Q rfl rfl) a0r)) a0m)) rfl rfl ?_
   iterate 3 refine z ?_
   refine yQ rfl (fun c4 => ?_) fun c4 => ?_
   ·refine a0q ?_
    refine a0h (σ' := ⟨[(3, .box 3 0), (6, .box 6 0), (7, .one (.dv [] (.bool (false))))], [(3, 78, [(.dv [] (a0w (r)))]), (6, 78, [.nil])], []⟩) (a0e ⟨rfl, rfl, rfl, trivial⟩ ⟨rfl, rfl, trivial⟩ trivial rfl) ?_
    refine a0k ?_
    refine z ?_
    refine zK 8998 Tryz.call117 ?_ (hf := a7V (x := r) (by omega))
    iterate 3 refine z ?_
    rw [b2k (fun hr => b9e hr d1 hpos) c4]
    refine a0h (σ' := ⟨[(6, .box 6 0), (7, .one (.dv [] (.bool (false))))], [(6, 78, [(.key 9001)])], [(9001, some (a0b false (a0w (r))))]⟩) (a0e ⟨rfl, rfl, trivial⟩ ⟨rfl, trivial⟩ ⟨rfl, trivial⟩ rfl) ?_
    iterate 2 refine z ?_
    refine a1h (a0F hT rfl rfl rfl rfl) (a0i rfl) rfl rfl ?_
    first | exact ⟨rfl, rfl⟩ | skip
   ·iterate 7 refine z ?_
    rw [b2m (fun hr => b9e hr d1 hpos) c4]
    refine a0h (σ' := ⟨[(6, .box 6 0), (7, .one (.dv [] (.bool (true))))], [(6, 78, [(.key 9001)])], [(9001, some (a0b false (a0w (a2t r j (n, v)))))]⟩) (a0e ⟨rfl, rfl, trivial⟩ ⟨rfl, trivial⟩ ⟨rfl, trivial⟩ rfl) ?_
    refine z ?_
    refine a1h (a0F hT rfl rfl rfl rfl) (a0i rfl) rfl rfl ?_
    first | exact ⟨rfl, rfl⟩ | skip
theorem b5A {r : a0y} {n : Str} {v : Int} (hb : r.length ≤ 1099511627776) : KFn Tryz.prog 139 [.agg [(.dv [] (a0w (r)))], .one (.dv [] (.str (n))), .one (.dv [] (.int .i64 (v)))] (.tup [(true, [(.key 9001)]), (false, [(.dv [] (.bool ((a1I r n v).2)))])]) [(9001, some (a0b false (a0w ((a1I r n v).1))))] := by
 refine ⟨a0v Tryz.func139 rfl Tryz.ntmps139 Tryz.results139 rfl (fun C => ?_)⟩
 refine yF 0 0 rfl rfl fun f0_0 => ?_
 refine a0E (x := .tmp 1) (a0a rfl) fun f1 => ?_
 refine a0E (x := .tmp 2) (a0a rfl) fun f2 => ?_
 iterate 7 refine z ?_
 refine zK 8998 Tryz.call103 ?_ (hf := a8d (x := r) (by omega))
 iterate 8 refine z ?_
 refine a0X (ι := Nat) (fun zz => ⟨[(1, .one (.dv [] (.str (n)))), (2, .one (.dv [] (.int .i64 (v)))), (3, .box 3 0), (6, .box 6 0), (7, .one (.dv [] (.bool (false)))), (8, .box 8 0), (9, .one (.dv [] (.int .i64 ((zz : Int)))))], [(3, 78, [(.dv [] (a0w (r)))]), (6, 78, [.nil]), (8, 78, [(.key 9001)])], [(9001, some (a0b false (.sl 128 2 (r.length) (r.flatMap a1d))))]⟩) (fun zz => zz ≤ r.length ∧ a2k n r = zz + a2k n (r.drop zz)) (fun zz => r.length - zz) (0) ?_ (a0e ⟨rfl, rfl, rfl, rfl, rfl, rfl, rfl, trivial⟩ ⟨rfl, rfl, rfl, trivial⟩ ⟨rfl, trivial⟩ rfl) (fun zz hx => ?_)
 ·exact ⟨Nat.zero_le _, by simp⟩
 obtain ⟨j, rfl⟩ : ∃ v, v = zz := ⟨_, rfl⟩
 replace hx : j ≤ r.length ∧ a2k n r = j + a2k n (r.drop j) := hx
 obtain ⟨hj, hp⟩ := hx
 show Ok _ _ _ _ _ (⟨[(1, .one (.dv [] (.str (n)))), (2, .one (.dv [] (.int .i64 (v)))), (3, .box 3 0), (6, .box 6 0), (7, .one (.dv [] (.bool (false)))), (8, .box 8 0), (9, .one (.dv [] (.int .i64 ((j : Int)))))], [(3, 78, [(.dv [] (a0w (r)))]), (6, 78, [.nil]), (8, 78, [(.key 9001)])], [(9001, some (a0b false (.sl 128 2 (r.length) (r.flatMap a1d))))]⟩ : St)
 iterate 18 refine z ?_
 refine yQ rfl (fun c1 => ?_) fun c1 => ?_
 ·have hst := b7b hp c1
  have hst1 := hst.1
  iterate 3 refine z ?_
  refine a0k ?_
  iterate 3 refine z ?_
  refine a1t ?_
  iterate 2 refine z ?_
  refine ⟨j + 1, ?_, ?_, a0e ⟨rfl, rfl, rfl, rfl, rfl, rfl, rfl, trivial⟩ ⟨rfl, rfl, rfl, trivial⟩ ⟨rfl, trivial⟩ rfl⟩
  ·exact ⟨by omega, hst.2⟩
  ·omega
 ·have hpos := b7F hj hp c1
  iterate 23 refine z ?_
  refine yQ rfl (fun c2 => ?_) fun c2 => ?_
  ·have hlt : j < r.length := by have h8 := c2; rw [Bool.and_eq_true, decide_eq_true_eq] at h8; omega
   refine a0k ?_
   iterate 4 refine z ?_
   refine yO rfl rfl (a2v (i := j) hT rfl rfl rfl (a0a rfl) rfl (a0a rfl) rfl (by show _ < (r.length); omega)) rfl ?_
   refine z ?_
   refine a3g (js := []) (cs := (a3F r j v).flatMap a1d) hT rfl rfl rfl rfl (a0a rfl) (a0a rfl) rfl rfl rfl rfl (a0t (a0W rfl) a1m rfl) (by decide) (by decide) rfl (by show _ ≤ List.length (r.flatMap a1d); rw [b3M]; omega) (b5o (by omega)) ?_
   simp only [a0l, a0j, SV.kill, CV.kill, kk, Nat.reduceBEq]
   refine z ?_
   refine a0q ?_
   refine a0q ?_
   refine a0h (a5L (k := 9001) (c' := a0b false (a0w (a3F r j v))) rfl (congrArg (fun m => KC.mk false 128 2 m ((a3F r j v).flatMap a1d)) b2C.symm) rfl) ?_
   refine a0k ?_
   refine z ?_
   refine zC Tryz.call107 ?_ (hf := a6g (r := r) )
   iterate 3 refine z ?_
   refine a1N (a1A rfl rfl rfl rfl rfl) rfl rfl Tryz.call107 (a6g (r := a3F r j v) ) (fun hg => (a0g (a0C rfl hg) (a0s (a0d (a0Q rfl rfl) a0r)) a0m)) rfl rfl ?_
   iterate 3 refine z ?_
   refine yQ rfl (fun c3 => ?_) fun c3 => ?_
   ·refine a0q ?_
    refine a0h (σ' := ⟨[(3, .box 3 0), (6, .box 6 0), (7, .one (.dv [] (.bool (false))))], [(3, 78, [(.dv [] (a0w (r)))]), (6, 78, [.nil])], []⟩) (a0e ⟨rfl, rfl, rfl, trivial⟩ ⟨rfl, rfl, trivial⟩ trivial rfl) ?_
    refine a0k ?_
    refine z ?_
    refine zK 8998 Tryz.call103 ?_ (hf := a8d (x := r) (by omega))
    iterate 3 refine z ?_
    rw [b2k (fun _ => c0c hpos c2) c3]
    refine a0h (σ' := ⟨[(6, .box 6 0), (7, .one (.dv [] (.bool (false))))], [(6, 78, [(.key 9001)])], [(9001, some (a0b false (a0w (r))))]⟩) (a0e ⟨rfl, rfl, trivial⟩ ⟨rfl, trivial⟩ ⟨rfl, trivial⟩ rfl) ?_
    iterate 2 refine z ?_
    refine a1h (a0F hT rfl rfl rfl rfl) (a0i rfl) rfl rfl ?_
    first | exact ⟨rfl, rfl⟩ | skip
   ·iterate 7 refine z ?_
    rw [b2m (fun _ => c0c hpos c2) c3]
    refine a0h (σ' := ⟨[(6, .box 6 0), (7, .one (.dv [] (.bool (true))))], [(6, 78, [(.key 9001)])], [(9001, some (a0b false (a0w (a3F r j v))))]⟩) (a0e ⟨rfl, rfl, trivial⟩ ⟨rfl, trivial⟩ ⟨rfl, trivial⟩ rfl) ?_
    refine z ?_
    refine a1h (a0F hT rfl rfl rfl rfl) (a0i rfl) rfl rfl ?_
    first | exact ⟨rfl, rfl⟩ | skip
  ·refine c2T (σ' := ⟨[(3, .box 3 0), (6, .box 6 0), (7, .one (.dv [] (.bool (false)))), (8, .box 8 0)], [(3, 78, [(.dv [] (a0w (r)))]), (6, 78, [.nil]), (8, 78, [(.key 9050)])], [(9001, some (a0b false (.sl 128 2 (r.length) (r.flatMap a1d)))), (9050, some (a0b false (.sl 128 2 ((a2t r j (n, v)).length) ((a2t r j (n, v)).flatMap a1d))))]⟩) ?_ ?_
   ·refine a5I [0, 1, 2, 3, 4, 5, 6, 7, 8, 9, 10, 11, 12, 13, 14, 15, 16] (oB := [3, 6, 8]) (oK := [9001]) (by kernel_rfl) rfl rfl ?_
    refine b4e ?_
    refine zN 1 ?_
    refine zN 2 ?_
    refine zN 3 ?_
    refine a5x 4 rfl (by kernel_rfl) rfl rfl (b3V hT rfl rfl rfl (a0a rfl) (a0a rfl) (fun _ => rfl) (by omega) (by omega)) rfl rfl rfl rfl ?_
    refine zN 6 ?_
    refine zN 7 ?_
    refine a5x 8 rfl (by kernel_rfl) rfl rfl (a1x hT hB rfl rfl rfl (a1r (a0a rfl) rfl rfl rfl rfl rfl (a1r (a0a rfl) rfl rfl rfl rfl rfl a1w))) rfl rfl rfl rfl ?_
    refine zN 11 ?_
    refine zN 12 ?_
    refine zN 13 ?_
    refine a5x 14 rfl (by kernel_rfl) rfl rfl (b0c hT rfl rfl rfl (a0a rfl) (a0a rfl) (fun _ => rfl) (by omega) (by omega)) rfl rfl rfl rfl ?_
    refine a2e 0 [9] (by kernel_rfl) ⟨?_, ?_, trivial⟩
    ·refine a8W (k := 9050) 0 hT rfl rfl rfl rfl rfl rfl rfl rfl rfl rfl rfl rfl ?_
     refine a2e 5 [9] (by kernel_rfl) ⟨?_, ?_, trivial⟩
     ·refine a4c (k := 9050) (cs := (r.take j).flatMap a1d) (n := (r.take j).length) 5 hT rfl rfl rfl rfl rfl rfl rfl rfl (a0a rfl) rfl rfl rfl (a0a rfl) (a3r (fun _ => rfl) _) (by dsimp only [a0b]; simp only [List.length_take]; omega) (by dsimp only [a0b]; simp only [List.length_take]; omega) (Nat.zero_add _) (rfl) rfl rfl ?_
      simp only [a0l, a0j, SV.kill, CV.kill, kk, Nat.reduceBEq]
      refine a2e 9 [] (by kernel_rfl) ⟨?_, trivial⟩
      ·refine b2U (k := 9059) (js := []) 9 hT rfl rfl rfl rfl rfl rfl rfl rfl rfl rfl rfl rfl (a1y (a0a rfl) rfl rfl rfl a4f) (a0t (a0W rfl) (a0t (a0W rfl) a1m rfl) rfl) (by decide) (by decide) rfl rfl rfl rfl rfl ?_
       simp only [a0l, a0j, SV.kill, CV.kill, kk, Nat.reduceBEq]
       refine a2e 10 [] (by kernel_rfl) ⟨?_, trivial⟩
       ·refine a4c (k := 9050) (cs := ((r.take j) ++ [(n, v)]).flatMap a1d) (n := ((r.take j) ++ [(n, v)]).length) (m := 1) (ds := [.str (n), .int .i64 (v)]) 10 hT rfl rfl rfl rfl rfl rfl rfl rfl (a0a rfl) rfl rfl rfl (a3I (a0a rfl) rfl rfl) rfl (by dsimp only [a0b]; simp only [List.length_take]; omega) (by dsimp only [a0b]; simp only [List.length_take]; omega) (by simp) (by rw [List.flatMap_append]; rfl) rfl rfl ?_
        simp only [a0l, a0j, SV.kill, CV.kill, kk, Nat.reduceBEq]
        refine a2e 15 [] (by kernel_rfl) ⟨?_, trivial⟩
        ·refine a4c (k := 9050) (cs := (a2t r j (n, v)).flatMap a1d) (n := (a2t r j (n, v)).length) 15 hT rfl rfl rfl rfl rfl rfl rfl rfl (a0a rfl) rfl rfl rfl (a0a rfl) (a3r (fun _ => rfl) _) (by dsimp only [a0b]; simp only [List.length_append, List.length_take, List.length_drop, List.length_singleton]; omega) (by dsimp only [a0b]; simp only [List.length_append, List.length_take, List.length_drop, List.length_singleton]; omega) (by simp [a2t]; omega) (by rw [← List.flatMap_append, a2t, List.append_assoc]; rfl) rfl rfl ?_
         simp only [a0l, a0j, SV.kill, CV.kill, kk, Nat.reduceBEq]
         refine zN 16 ?_
         refine a2e 17 [] (by kernel_rfl) ⟨?_, trivial⟩
         ·refine a5V 17 rfl rfl (by kernel_rfl) (a4V hT rfl rfl rfl (a0a rfl) (a0a rfl) rfl rfl rfl rfl rfl rfl) (by kernel_rfl) ?_
          exact a2p (a0e ⟨rfl, rfl, rfl, rfl, trivial⟩ ⟨rfl, rfl, rfl, trivial⟩ ⟨rfl, rfl, trivial⟩ rfl)
     ·refine b2U (k := 9059) (js := []) 9 hT rfl rfl rfl rfl rfl rfl rfl rfl rfl rfl rfl rfl (a1y (a0a rfl) rfl rfl rfl a4f) (a0t (a0W rfl) (a0t (a0W rfl) a1m rfl) rfl) (by decide) (by decide) rfl rfl rfl rfl rfl ?_
      simp only [a0l, a0j, SV.kill, CV.kill, kk, Nat.reduceBEq]
      refine a2e 5 [] (by kernel_rfl) ⟨?_, trivial⟩
      ·refine a4c (k := 9050) (cs := (r.take j).flatMap a1d) (n := (r.take j).length) 5 hT rfl rfl rfl rfl rfl rfl rfl rfl (a0a rfl) rfl rfl rfl (a0a rfl) (a3r (fun _ => rfl) _) (by dsimp only [a0b]; simp only [List.length_take]; omega) (by dsimp only [a0b]; simp only [List.length_take]; omega) (Nat.zero_add _) (rfl) rfl rfl ?_
       simp only [a0l, a0j, SV.kill, CV.kill, kk, Nat.reduceBEq]
       refine a2e 10 [] (by kernel_rfl) ⟨?_, trivial⟩
       ·refine a4c (k := 9050) (cs := ((r.take j) ++ [(n, v)]).flatMap a1d) (n := ((r.take j) ++ [(n, v)]).length) (m := 1) (ds := [.str (n), .int .i64 (v)]) 10 hT rfl rfl rfl rfl rfl rfl rfl rfl (a0a rfl) rfl rfl rfl (a3I (a0a rfl) rfl rfl) rfl (by dsimp only [a0b]; simp only [List.length_take]; omega) (by dsimp only [a0b]; simp only [List.length_take]; omega) (by simp) (by rw [List.flatMap_append]; rfl) rfl rfl ?_
        simp only [a0l, a0j, SV.kill, CV.kill, kk, Nat.reduceBEq]
        refine a2e 15 [] (by kernel_rfl) ⟨?_, trivial⟩
        ·refine a4c (k := 9050) (cs := (a2t r j (n, v)).flatMap a1d) (n := (a2t r j (n, v)).length) 15 hT rfl rfl rfl rfl rfl rfl rfl rfl (a0a rfl) rfl rfl rfl (a0a rfl) (a3r (fun _ => rfl) _) (by dsimp only [a0b]; simp only [List.length_append, List.length_take, List.length_drop, List.length_singleton]; omega) (by dsimp only [a0b]; simp only [List.length_append, List.length_take, List.length_drop, List.length_singleton]; omega) (by simp [a2t]; omega) (by rw [← List.flatMap_append, a2t, List.append_assoc]; rfl) rfl rfl ?_
         simp only [a0l, a0j, SV.kill, CV.kill, kk, Nat.reduceBEq]
         refine zN 16 ?_
         refine a2e 17 [] (by kernel_rfl) ⟨?_, trivial⟩
         ·refine a5V 17 rfl rfl (by kernel_rfl) (a4V hT rfl rfl rfl (a0a rfl) (a0a rfl) rfl rfl rfl rfl rfl rfl) (by kernel_rfl) ?_
          exact a2p (a0e ⟨rfl, rfl, rfl, rfl, trivial⟩ ⟨rfl, rfl, rfl, trivial⟩ ⟨rfl, rfl, trivial⟩ rfl)
    ·refine b2U (k := 9059) (js := []) 9 hT rfl rfl rfl rfl rfl rfl rfl rfl rfl rfl rfl rfl (a1y (a0a rfl) rfl rfl rfl a4f) (a0t (a0W rfl) (a0t (a0W rfl) a1m rfl) rfl) (by decide) (by decide) rfl rfl rfl rfl rfl ?_
     simp only [a0l, a0j, SV.kill, CV.kill, kk, Nat.reduceBEq]
     refine a2e 0 [] (by kernel_rfl) ⟨?_, trivial⟩
     ·refine a8W (k := 9050) 0 hT rfl rfl rfl rfl rfl rfl rfl rfl rfl rfl rfl rfl ?_
      refine a2e 5 [] (by kernel_rfl) ⟨?_, trivial⟩
      ·refine a4c (k := 9050) (cs := (r.take j).flatMap a1d) (n := (r.take j).length) 5 hT rfl rfl rfl rfl rfl rfl rfl rfl (a0a rfl) rfl rfl rfl (a0a rfl) (a3r (fun _ => rfl) _) (by dsimp only [a0b]; simp only [List.length_take]; omega) (by dsimp only [a0b]; simp only [List.length_take]; omega) (Nat.zero_add _) (rfl) rfl rfl ?_
       simp only [a0l, a0j, SV.kill, CV.kill, kk, Nat.reduceBEq]
       refine a2e 10 [] (by kernel_rfl) ⟨?_, trivial⟩
       ·refine a4c (k := 9050) (cs := ((r.take j) ++ [(n, v)]).flatMap a1d) (n := ((r.take j) ++ [(n, v)]).length) (m := 1) (ds := [.str (n), .int .i64 (v)]) 10 hT rfl rfl rfl rfl rfl rfl rfl rfl (a0a rfl) rfl rfl rfl (a3I (a0a rfl) rfl rfl) rfl (by dsimp only [a0b]; simp only [List.length_take]; omega) (by dsimp only [a0b]; simp only [List.length_take]; omega) (by simp) (by rw [List.flatMap_append]; rfl) rfl rfl ?_
        simp only [a0l, a0j, SV.kill, CV.kill, kk, Nat.reduceBEq]
        refine a2e 15 [] (by kernel_rfl) ⟨?_, trivial⟩
        ·refine a4c (k := 9050) (cs := (a2t r j (n, v)).flatMap a1d) (n := (a2t r j (n, v)).length) 15 hT rfl rfl rfl rfl rfl rfl rfl rfl (a0a rfl) rfl rfl rfl (a0a rfl) (a3r (fun _ => rfl) _) (by dsimp only [a0b]; simp only [List.length_append, List.length_take, List.length_drop, List.length_singleton]; omega) (by dsimp only [a0b]; simp only [List.length_append, List.length_take, List.length_drop, List.length_singleton]; omega) (by simp [a2t]; omega) (by rw [← List.flatMap_append, a2t, List.append_assoc]; rfl) rfl rfl ?_
         simp only [a0l, a0j, SV.kill, CV.kill, kk, Nat.reduceBEq]
         refine zN 16 ?_
         refine a2e 17 [] (by kernel_rfl) ⟨?_, trivial⟩
         ·refine a5V 17 rfl rfl (by kernel_rfl) (a4V hT rfl rfl rfl (a0a rfl) (a0a rfl) rfl rfl rfl rfl rfl rfl) (by kernel_rfl) ?_
          exact a2p (a0e ⟨rfl, rfl, rfl, rfl, trivial⟩ ⟨rfl, rfl, rfl, trivial⟩ ⟨rfl, rfl, trivial⟩ rfl)
   refine a0q ?_
   refine a0q ?_
   refine a0h (a5i (b := 8) (i := 0) (k := 9050) (k' := 9001) rfl rfl rfl rfl (by decide) rfl rfl) ?_
   simp only [a0l, a0j, SV.kill, CV.kill, kk, Nat.reduceBEq]
   refine a0h (a5L (k := 9001) (c' := a0b false (a0w (a2t r j (n, v)))) rfl (rfl) rfl) ?_
   refine a0k ?_
   refine z ?_
   refine zC Tryz.call107 ?_ (hf := a6g (r := r) )
   iterate 3 refine z ?_
   refine a1N (a1A rfl rfl rfl rfl rfl) rfl rfl Tryz.call107 (a6g (r := a2t r j (n, v)) ) (fun hg => (a0g (a0C rfl hg) (a0s (a0d (a0Q rfl rfl) a0r)) a0m)) rfl rfl ?_
   iterate 3 refine z ?_
   refine yQ rfl (fun c4 => ?_) fun c4 => ?_
   ·refine a0q ?_
    refine a0h (σ' := ⟨[(3, .box 3 0), (6, .box 6 0), (7, .one (.dv [] (.bool (false))))], [(3, 78, [(.dv [] (a0w (r)))]), (6, 78, [.nil])], []⟩) (a0e ⟨rfl, rfl, rfl, trivial⟩ ⟨rfl, rfl, trivial⟩ trivial rfl) ?_
    refine a0k ?_
    refine z ?_
    refine zK 8998 Tryz.call103 ?_ (hf := a8d (x := r) (by omega))
    iterate 3 refine z ?_
    rw [b2k (fun _ => b7f hpos c2) c4]
    refine a0h (σ' := ⟨[(6, .box 6 0), (7, .one (.dv [] (.bool (false))))], [(6, 78, [(.key 9001)])], [(9001, some (a0b false (a0w (r))))]⟩) (a0e ⟨rfl, rfl, trivial⟩ ⟨rfl, trivial⟩ ⟨rfl, trivial⟩ rfl) ?_
    iterate 2 refine z ?_
    refine a1h (a0F hT rfl rfl rfl rfl) (a0i rfl) rfl rfl ?_
    first | exact ⟨rfl, rfl⟩ | skip
   ·iterate 7 refine z ?_
    rw [b2m (fun _ => b7f hpos c2) c4]
    refine a0h (σ' := ⟨[(6, .box 6 0), (7, .one (.dv [] (.bool (true))))], [(6, 78, [(.key 9001)])], [(9001, some (a0b false (a0w (a2t r j (n, v)))))]⟩) (a0e ⟨rfl, rfl, trivial⟩ ⟨rfl, trivial⟩ ⟨rfl, trivial⟩ rfl) ?_
    refine z ?_
    refine a1h (a0F hT rfl rfl rfl rfl) (a0i rfl) rfl rfl ?_
    first | exact ⟨rfl, rfl⟩ | skip
end Go.Proofs.YtfejjkndbpejbaaGreat
