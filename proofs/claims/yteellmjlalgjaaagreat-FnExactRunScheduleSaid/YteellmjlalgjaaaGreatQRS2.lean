/-
  Contracts of the program's functions for the statements RunSchedule, by the rules of the logic. Conditions: none but those in the theorems.
-/
import Derived.Test.YteellmjlalgjaaaGreatQRS1
set_option maxHeartbeats 4000000
set_option maxRecDepth 100000
namespace Go.Proofs.YteellmjlalgjaaaGreat
open Go.RowKit
open Go.Proofs
set_option linter.unusedVariables false
set_option linter.unusedSimpArgs false
def a4u (s : a0I) (i : Nat) : Bool := (!a1H (s.2.1.getD (i : Int).toNat default).1 || !a1C (s.2.1.getD (i : Int).toNat default).2) ||
 (decide ((0 : Int) < (i : Int)) && decide (0 ≤ a2W (s.2.1.getD ((i : Int) - 1).toNat default).1 (s.2.1.getD (i : Int).toNat default).1))
def a1E (s : a0I) : Bool := (List.range s.2.1.length).all (fun i => !a4u s i) && (a3l s.1 && decide ((s.2.1.length : Int) ≤ 16) && (decide ((0 : Int) ≤ s.2.2) && decide (s.2.2 ≤ 1000000)))
def kEq (a b : a1g) : Bool := decide (a.1 = b.1) && (decide (a.2.1 = b.2.1) && sEq a.2.2 b.2.2)
def a0X (x : a0I) (k : a1g) : Int := a0q (fun y : a0Q => kEq y.1 k) x.2.1 0
theorem b1j {xs : List a0Q} {k : Nat} (hk : k < xs.length) : (xs.take k).flatMap a0E ++ a0E (xs.getD (k : Int).toNat default) = (xs.take (k + 1)).flatMap a0E ∧ (xs.take k).length + 1 = (xs.take (k + 1)).length := by
 have e : xs.getD (k : Int).toNat default = xs[k] := by simp [List.getD, List.getElem?_eq_getElem hk]
 rw [List.take_add_one, List.getElem?_eq_getElem hk, e]
 simp only [Option.toList_some, List.flatMap_append, List.flatMap_cons, List.flatMap_nil, List.append_nil, c5s, List.length_singleton]
 exact ⟨trivial, trivial⟩
theorem a8B {s : a0I}  : PFn Tryz.prog 70 [.agg [(.dv [] (.str (s.1))), (.dv [] (a0t (s.2.1))), (.dv [] (.int .i64 (s.2.2)))]] (.one (.dv [] (.bool (a1E s)))) := by
 refine ⟨a0u Tryz.func70 rfl Tryz.ntmps70 Tryz.results70 rfl (fun C => ?_)⟩
 refine yF 0 0 rfl rfl fun f0_0 => ?_
 refine yF 0 1 rfl rfl fun f0_1 => ?_
 refine yF 0 2 rfl rfl fun f0_2 => ?_
 iterate 12 refine z ?_
 refine a0W (ι := Nat) (fun zz => ⟨[(1, .box 1 0), (6, .one (.dv [] (a0t (s.2.1)))), (7, .one (.dv [] (.int .i64 ((((s.2.1)).length : Int))))), (8, .one (.dv [] (.int .i64 ((zz : Int)))))], [(1, 89, [(.dv [] (.str (s.1))), (.dv [] (a0t (s.2.1))), (.dv [] (.int .i64 (s.2.2)))])], []⟩) (fun zz => zz ≤ s.2.1.length ∧ (List.range zz).all (fun i => !a4u s i) = true) (fun zz => s.2.1.length - zz) (0) ?_ (a0e ⟨rfl, rfl, rfl, rfl, trivial⟩ ⟨rfl, trivial⟩ trivial rfl) (fun zz hx => ?_)
 ·exact ⟨Nat.zero_le _, rfl⟩
 obtain ⟨k, rfl⟩ : ∃ v, v = zz := ⟨_, rfl⟩
 replace hx : k ≤ s.2.1.length ∧ (List.range k).all (fun i => !a4u s i) = true := hx
 obtain ⟨hk, hall⟩ := hx
 show Ok _ _ _ _ _ (⟨[(1, .box 1 0), (6, .one (.dv [] (a0t (s.2.1)))), (7, .one (.dv [] (.int .i64 ((((s.2.1)).length : Int))))), (8, .one (.dv [] (.int .i64 ((k : Int)))))], [(1, 89, [(.dv [] (.str (s.1))), (.dv [] (a0t (s.2.1))), (.dv [] (.int .i64 (s.2.2)))])], []⟩ : St)
 iterate 3 refine z ?_
 refine a0p ?_
 refine yQ rfl (fun c1 => ?_) fun c1 => ?_
 ·have d1 := c5p c1
  iterate 12 refine z ?_
  refine a0p ?_
  refine a1o (oB := [1, 4]) (oK := []) (by kernel_rfl) rfl rfl ?_
  refine zD 0 ?_
  refine zD 1 ?_
  refine a2v 2 rfl (by kernel_rfl) rfl rfl rfl Tryz.call102 a6C (a0f (a0a rfl) (a0l (a0c a0b (a0c a0b (a0c a0b a0m)))) a0n) rfl rfl rfl rfl ?_
  refine zD 3 ?_
  refine zD 4 ?_
  refine zDG 5 ?_
  refine zDG 6 ?_
  refine a4f 7 rfl (by kernel_rfl) (a1l rfl rfl rfl rfl rfl) rfl rfl Tryz.call103 a8M (fun hg => (a0f (a0x rfl hg) (a0l (a0c a0b a0m)) a0n)) rfl rfl ?_
  refine zDG 8 ?_
  refine zD 9 ?_
  refine zD 10 ?_
  refine zDG 11 ?_
  refine zDG 12 ?_
  refine zDG 13 ?_
  refine zDG 14 ?_
  refine zDG 15 ?_
  refine zDG 16 ?_
  refine zDG 17 ?_
  refine zDG 18 ?_
  refine zDG 19 ?_
  refine zDG 20 ?_
  refine zDG 21 ?_
  refine zDG 22 ?_
  refine a4f 23 rfl (by kernel_rfl) (a3G rfl rfl rfl rfl rfl) rfl rfl Tryz.call104 a8X (fun hg => (a0f (a0x rfl hg) (a0l (a0c a0b (a0c a0b (a0c a0b a0m)))) (a0f (a0x rfl hg) (a0l (a0c a0b (a0c a0b (a0c a0b a0m)))) a0n))) rfl rfl ?_
  refine zDG 24 ?_
  refine zDG 25 ?_
  refine zD 26 ?_
  refine a1R (by kernel_rfl) ?_
  refine z ?_
  refine yQ rfl (fun c2 => ?_) fun c2 => ?_
  ·iterate 10 refine z ?_
   rw [a1E, a8m (k := k) (by omega) (by have h : a4u s k = true := c2; simpa using h)]; rfl
  ·iterate 3 refine z ?_
   refine a0j ?_
   iterate 3 refine z ?_
   refine ⟨k + 1, ?_, ?_, a0e ⟨rfl, rfl, rfl, rfl, trivial⟩ ⟨rfl, trivial⟩ trivial rfl⟩
   ·exact ⟨by omega, a6u hall (by have h : a4u s k = false := c2; simpa using h)⟩
   ·omega
 ·have d1 := c5q c1
  iterate 8 refine z ?_
  refine zC Tryz.call68 ?_ (hf := a8x)
  iterate 9 refine z ?_
  refine a1t (a1l rfl rfl rfl rfl rfl) rfl rfl Tryz.call69 a5k (fun hg => (a0f (a0x rfl hg) (a0H a0b) (a0f (a0y (a0w rfl)) (a0H a0b) (a0f (a0y (a0w rfl)) (a0H a0b) a0n)))) rfl rfl ?_
  iterate 5 refine z ?_
  obtain rfl : k = s.2.1.length := by omega
  rw [a1E, hall]; rfl
theorem b2N {s : a0I}  : PFn Tryz.prog 54 [.agg [(.dv [] (.str (s.1))), (.dv [] (a0t (s.2.1))), (.dv [] (.int .i64 (s.2.2)))]] (.one (.dv [] (.bool (a1E s)))) := by
 refine ⟨a0u Tryz.func54 rfl Tryz.ntmps54 Tryz.results54 rfl (fun C => ?_)⟩
 refine yF 0 0 rfl rfl fun f0_0 => ?_
 refine yF 0 1 rfl rfl fun f0_1 => ?_
 refine yF 0 2 rfl rfl fun f0_2 => ?_
 iterate 9 refine z ?_
 refine a0W (ι := Nat) (fun zz => ⟨[(1, .box 1 0), (3, .one (.dv [] (.int .i64 ((zz : Int)))))], [(1, 89, [(.dv [] (.str (s.1))), (.dv [] (a0t (s.2.1))), (.dv [] (.int .i64 (s.2.2)))])], []⟩) (fun zz => zz ≤ s.2.1.length ∧ (List.range zz).all (fun i => !a4u s i) = true) (fun zz => s.2.1.length - zz) (0) ?_ (a0e ⟨rfl, rfl, trivial⟩ ⟨rfl, trivial⟩ trivial rfl) (fun zz hx => ?_)
 ·exact ⟨Nat.zero_le _, rfl⟩
 obtain ⟨k, rfl⟩ : ∃ v, v = zz := ⟨_, rfl⟩
 replace hx : k ≤ s.2.1.length ∧ (List.range k).all (fun i => !a4u s i) = true := hx
 obtain ⟨hk, hall⟩ := hx
 show Ok _ _ _ _ _ (⟨[(1, .box 1 0), (3, .one (.dv [] (.int .i64 ((k : Int)))))], [(1, 89, [(.dv [] (.str (s.1))), (.dv [] (a0t (s.2.1))), (.dv [] (.int .i64 (s.2.2)))])], []⟩ : St)
 iterate 8 refine z ?_
 refine yQ rfl (fun c1 => ?_) fun c1 => ?_
 ·have d1 := c5p c1
  iterate 4 refine z ?_
  refine a0p ?_
  refine a1o (oB := [1]) (oK := []) (by kernel_rfl) rfl rfl ?_
  refine zD 0 ?_
  refine zD 1 ?_
  refine zD 2 ?_
  refine zD 3 ?_
  refine zD 4 ?_
  refine zD 5 ?_
  refine a2v 6 rfl (by kernel_rfl) rfl rfl rfl Tryz.call89 a6Y (a0f (a0a rfl) (a0l (a0c a0b (a0c a0b (a0c a0b a0m)))) a0n) rfl rfl rfl rfl ?_
  refine zD 7 ?_
  refine zD 8 ?_
  refine zDG 9 ?_
  refine zDG 10 ?_
  refine zDG 11 ?_
  refine zDG 12 ?_
  refine zDG 13 ?_
  refine zDG 14 ?_
  refine a4f 15 rfl (by kernel_rfl) (a1l rfl rfl rfl rfl rfl) rfl rfl Tryz.call90 a7M (fun hg => (a0f (a0x rfl hg) (a0l (a0c a0b a0m)) a0n)) rfl rfl ?_
  refine zDG 16 ?_
  refine zD 17 ?_
  refine zD 18 ?_
  refine zDG 19 ?_
  refine zDG 20 ?_
  refine zDG 21 ?_
  refine zDG 22 ?_
  refine zDG 23 ?_
  refine zDG 24 ?_
  refine zDG 25 ?_
  refine zDG 26 ?_
  refine zDG 27 ?_
  refine zDG 28 ?_
  refine zDG 29 ?_
  refine zDG 30 ?_
  refine zDG 31 ?_
  refine zDG 32 ?_
  refine zDG 33 ?_
  refine zDG 34 ?_
  refine a4f 35 rfl (by kernel_rfl) (a3G rfl rfl rfl rfl rfl) rfl rfl Tryz.call91 a8R (fun hg => (a0f (a0x rfl hg) (a0l (a0c a0b (a0c a0b (a0c a0b a0m)))) (a0f (a0x rfl hg) (a0l (a0c a0b (a0c a0b (a0c a0b a0m)))) a0n))) rfl rfl ?_
  refine zDG 36 ?_
  refine zDG 37 ?_
  refine zD 38 ?_
  refine a1R (by kernel_rfl) ?_
  refine z ?_
  refine yQ rfl (fun c2 => ?_) fun c2 => ?_
  ·iterate 10 refine z ?_
   rw [a1E, a8m (k := k) (by omega) (by have h : a4u s k = true := c2; simpa using h)]; rfl
  ·iterate 3 refine z ?_
   refine a0j ?_
   iterate 4 refine z ?_
   refine ⟨k + 1, ?_, ?_, a0e ⟨rfl, rfl, trivial⟩ ⟨rfl, trivial⟩ trivial rfl⟩
   ·exact ⟨by omega, a6u hall (by have h : a4u s k = false := c2; simpa using h)⟩
   ·omega
 ·have d1 := c5q c1
  iterate 8 refine z ?_
  refine zC Tryz.call56 ?_ (hf := a7U)
  iterate 9 refine z ?_
  refine a1t (a1l rfl rfl rfl rfl rfl) rfl rfl Tryz.call58 a3Y (fun hg => (a0f (a0x rfl hg) (a0H a0b) (a0f (a0y (a0w rfl)) (a0H a0b) (a0f (a0y (a0w rfl)) (a0H a0b) a0n)))) rfl rfl ?_
  iterate 5 refine z ?_
  obtain rfl : k = s.2.1.length := by omega
  rw [a1E, hall]; rfl
theorem c5a {y : a0Q} {k : a1g}  : PFn Tryz.prog 159 [.agg [(.dv [] (.int .i64 (y.1.1))), (.dv [] (.int .i64 (y.1.2.1))), (.dv [] (.str (y.1.2.2))), (.dv [] (a0z (y.2)))], .ref [] [.int .i64 (k.1), .int .i64 (k.2.1), .str (k.2.2)]] (.one (.dv [] (.bool (kEq y.1 k)))) := by
 refine ⟨a0u Tryz.func159 rfl Tryz.ntmps159 Tryz.results159 rfl (fun C => ?_)⟩
 refine yF 0 0 rfl rfl fun f0_0 => ?_
 refine yF 0 1 rfl rfl fun f0_1 => ?_
 refine yF 0 2 rfl rfl fun f0_2 => ?_
 refine yF 0 3 rfl rfl fun f0_3 => ?_
 iterate 8 refine z ?_
 refine yO rfl rfl (b0c rfl (a0a rfl) (a0a rfl) rfl rfl Tryz.eqGuardType98 (b6l _ _ _ _ _ _)) rfl ?_
 iterate 4 refine z ?_
 rfl
theorem c2f {x : List a0Q} {k : a1g}  : PFn Tryz.prog 158 [.one (.dv [] (a0t (x))), .fn 159 [[.int .i64 (k.1), .int .i64 (k.2.1), .str (k.2.2)]]] (.one (.dv [] (.int .i64 (a0q (fun y : a0Q => kEq y.1 k) x 0)))) := by
 refine ⟨a0u Tryz.func158 rfl Tryz.ntmps158 Tryz.results158 rfl (fun C => ?_)⟩
 refine a0G (x := .tmp 0) (a0a rfl) fun f0 => ?_
 iterate 10 refine z ?_
 refine a0W (ι := Nat) (fun zz => ⟨[(0, .one (.dv [] (a0t (x)))), (1, .fn 159 [[.int .i64 (k.1), .int .i64 (k.2.1), .str (k.2.2)]]), (7, .one (.dv [] (.int .i64 ((((x)).length : Int))))), (8, .one (.dv [] (.int .i64 ((zz : Int)))))], [], []⟩) (fun zz => zz ≤ x.length ∧ (x.take zz).any (fun y : a0Q => kEq y.1 k) = false) (fun zz => x.length - zz) (0) ?_ (a0e ⟨rfl, rfl, rfl, rfl, trivial⟩ trivial trivial rfl) (fun zz hx => ?_)
 ·exact ⟨Nat.zero_le _, rfl⟩
 obtain ⟨n, rfl⟩ : ∃ v, v = zz := ⟨_, rfl⟩
 replace hx : n ≤ x.length ∧ (x.take n).any (fun y : a0Q => kEq y.1 k) = false := hx
 obtain ⟨hk, hall⟩ := hx
 show Ok _ _ _ _ _ (⟨[(0, .one (.dv [] (a0t (x)))), (1, .fn 159 [[.int .i64 (k.1), .int .i64 (k.2.1), .str (k.2.2)]]), (7, .one (.dv [] (.int .i64 ((((x)).length : Int))))), (8, .one (.dv [] (.int .i64 ((n : Int)))))], [], []⟩ : St)
 iterate 3 refine z ?_
 refine a0p ?_
 refine yQ rfl (fun c1 => ?_) fun c1 => ?_
 ·have d1 := c5p c1
  iterate 14 refine z ?_
  refine a9q rfl rfl rfl (a0a rfl) Tryz.call159 c5a (a0f (a0a rfl) (a0l (a0c a0b (a0c a0b (a0c a0b (a0c a0b a0m))))) a0n) rfl rfl ?_
  refine z ?_
  refine yQ rfl (fun c2 => ?_) fun c2 => ?_
  ·iterate 11 refine z ?_
   exact (a6V (p := fun y : a0Q => kEq y.1 k) (d := default) hall (by omega) c2).symm
  ·iterate 3 refine z ?_
   refine a0j ?_
   iterate 3 refine z ?_
   refine ⟨n + 1, ?_, ?_, a0e ⟨rfl, rfl, rfl, rfl, trivial⟩ trivial trivial rfl⟩
   ·exact ⟨by omega, a6F (d := default) hall (by omega) c2⟩
   ·omega
 ·have d1 := c5q c1
  iterate 10 refine z ?_
  exact (a6Q (p := fun y : a0Q => kEq y.1 k) hall (by omega)).symm
theorem b1c {x : a0I} {k : a1g}  : PFn Tryz.prog 138 [.agg [(.dv [] (.str (x.1))), (.dv [] (a0t (x.2.1))), (.dv [] (.int .i64 (x.2.2)))], .agg [(.dv [] (.int .i64 (k.1))), (.dv [] (.int .i64 (k.2.1))), (.dv [] (.str (k.2.2)))]] (.one (.dv [] (.int .i64 (a0X x k)))) := by
 refine ⟨a0u Tryz.func138 rfl Tryz.ntmps138 Tryz.results138 rfl (fun C => ?_)⟩
 refine yF 0 0 rfl rfl fun f0_0 => ?_
 refine yF 0 1 rfl rfl fun f0_1 => ?_
 refine yF 0 2 rfl rfl fun f0_2 => ?_
 refine yF 1 0 rfl rfl fun f1_0 => ?_
 refine yF 1 1 rfl rfl fun f1_1 => ?_
 refine yF 1 2 rfl rfl fun f1_2 => ?_
 iterate 8 refine z ?_
 refine yO rfl rfl (b0B rfl (a0a rfl)) rfl ?_
 refine a3k rfl rfl rfl Tryz.call158 c2f (a0f (a0a rfl) (a0H a0b) (a0f (a0a rfl) (b2b (b1g rfl rfl a9R)) a0n)) rfl rfl ?_
 iterate 4 refine z ?_
 rfl
theorem b0R {x : a0I} {k : a1g}  : PFn Tryz.prog 127 [.agg [(.dv [] (.str (x.1))), (.dv [] (a0t (x.2.1))), (.dv [] (.int .i64 (x.2.2)))], .agg [(.dv [] (.int .i64 (k.1))), (.dv [] (.int .i64 (k.2.1))), (.dv [] (.str (k.2.2)))]] (.one (.dv [] (.int .i64 (a0X x k)))) := by
 refine ⟨a0u Tryz.func127 rfl Tryz.ntmps127 Tryz.results127 rfl (fun C => ?_)⟩
 refine yF 0 0 rfl rfl fun f0_0 => ?_
 refine yF 0 1 rfl rfl fun f0_1 => ?_
 refine yF 0 2 rfl rfl fun f0_2 => ?_
 refine yF 1 0 rfl rfl fun f1_0 => ?_
 refine yF 1 1 rfl rfl fun f1_1 => ?_
 refine yF 1 2 rfl rfl fun f1_2 => ?_
 iterate 10 refine z ?_
 refine a0W (ι := Nat) (fun zz => ⟨[(2, .box 2 0), (3, .box 3 0), (5, .one (.dv [] (.int .i64 ((zz : Int)))))], [(2, 89, [(.dv [] (.str (x.1))), (.dv [] (a0t (x.2.1))), (.dv [] (.int .i64 (x.2.2)))]), (3, 98, [(.dv [] (.int .i64 (k.1))), (.dv [] (.int .i64 (k.2.1))), (.dv [] (.str (k.2.2)))])], []⟩) (fun zz => zz ≤ x.2.1.length ∧ (x.2.1.take zz).any (fun y : a0Q => kEq y.1 k) = false) (fun zz => x.2.1.length - zz) (0) ?_ (a0e ⟨rfl, rfl, rfl, trivial⟩ ⟨rfl, rfl, trivial⟩ trivial rfl) (fun zz hx => ?_)
 ·exact ⟨Nat.zero_le _, rfl⟩
 obtain ⟨n, rfl⟩ : ∃ v, v = zz := ⟨_, rfl⟩
 replace hx : n ≤ x.2.1.length ∧ (x.2.1.take n).any (fun y : a0Q => kEq y.1 k) = false := hx
 obtain ⟨hk, hall⟩ := hx
 show Ok _ _ _ _ _ (⟨[(2, .box 2 0), (3, .box 3 0), (5, .one (.dv [] (.int .i64 ((n : Int)))))], [(2, 89, [(.dv [] (.str (x.1))), (.dv [] (a0t (x.2.1))), (.dv [] (.int .i64 (x.2.2)))]), (3, 98, [(.dv [] (.int .i64 (k.1))), (.dv [] (.int .i64 (k.2.1))), (.dv [] (.str (k.2.2)))])], []⟩ : St)
 iterate 8 refine z ?_
 refine yQ rfl (fun c1 => ?_) fun c1 => ?_
 ·have d1 := c5p c1
  iterate 4 refine z ?_
  refine a0p ?_
  refine a1o (oB := [2, 3]) (oK := []) (by kernel_rfl) rfl rfl ?_
  refine zD 0 ?_
  refine zD 1 ?_
  refine zD 2 ?_
  refine zD 3 ?_
  refine zD 4 ?_
  refine zD 5 ?_
  refine zD 6 ?_
  refine a1X 7 rfl (by kernel_rfl) rfl rfl (b0c rfl (a0a rfl) (a0a rfl) rfl rfl Tryz.eqGuardType98 (b6l _ _ _ _ _ _)) rfl rfl rfl rfl ?_
  refine a1R (by kernel_rfl) ?_
  refine z ?_
  refine yQ rfl (fun c2 => ?_) fun c2 => ?_
  ·iterate 11 refine z ?_
   exact (a6V (p := fun y : a0Q => kEq y.1 k) (d := default) hall (by omega) c2).symm
  ·iterate 3 refine z ?_
   refine a0j ?_
   iterate 4 refine z ?_
   refine ⟨n + 1, ?_, ?_, a0e ⟨rfl, rfl, rfl, trivial⟩ ⟨rfl, rfl, trivial⟩ trivial rfl⟩
   ·exact ⟨by omega, a6F (d := default) hall (by omega) c2⟩
   ·omega
 ·have d1 := c5q c1
  iterate 10 refine z ?_
  exact (a6Q (p := fun y : a0Q => kEq y.1 k) hall (by omega)).symm
theorem a5c {x : a0I} (hb : a0v x ≤ 1099511627776) : KFn Tryz.prog 66 [.agg [(.dv [] (.str (x.1))), (.dv [] (a0t (x.2.1))), (.dv [] (.int .i64 (x.2.2)))]] (.agg [(.dv [] (.str (x.1))), (.key 30), (.dv [] (.int .i64 (x.2.2)))]) [(30, some (a0d false (a0t (x.2.1))))] := by
 refine ⟨a0u Tryz.func66 rfl Tryz.ntmps66 Tryz.results66 rfl (fun C => ?_)⟩
 refine yF 0 0 rfl rfl fun f0_0 => ?_
 refine yF 0 1 rfl rfl fun f0_1 => ?_
 refine yF 0 2 rfl rfl fun f0_2 => ?_
 iterate 9 refine z ?_
 refine yO rfl rfl (a2s hT hB rfl rfl rfl (a1x (a0a rfl) rfl rfl rfl rfl rfl (a1x (a0a rfl) rfl rfl rfl rfl rfl a2o))) rfl ?_
 iterate 3 refine z ?_
 refine a0p ?_
 refine a0p ?_
 refine a0r (a6X 30 (b := 3) (i := 1) (e := 128) (sz := 4) rfl rfl rfl rfl rfl) ?_
 simp only [a0i, a0h, SV.kill, CV.kill, kk, Nat.reduceBEq]
 refine a0j ?_
 iterate 6 refine z ?_
 refine a0W (ι := Nat) (fun zz => ⟨[(2, .box 2 0), (3, .box 3 0), (12, .one (.dv [] (a0t (x.2.1)))), (13, .one (.dv [] (.int .i64 ((((x.2.1)).length : Int))))), (14, .one (.dv [] (.int .i64 ((zz : Int)))))], [(2, 89, [(.dv [] (.str (ByteArray.empty))), .nil, (.dv [] (.int .i64 (0)))]), (3, 89, [(.dv [] (.str (x.1))), (.key 30), (.dv [] (.int .i64 (x.2.2)))])], [(30, some (a0d false (.sl 128 4 ((x.2.1.take zz).length) ((x.2.1.take zz).flatMap a0E))))]⟩) (fun zz => zz ≤ x.2.1.length) (fun zz => x.2.1.length - zz) (0) ?_ (a0e ⟨rfl, rfl, rfl, rfl, rfl, trivial⟩ ⟨rfl, rfl, trivial⟩ ⟨rfl, trivial⟩ rfl) (fun zz hx => ?_)
 ·exact Nat.zero_le _
 obtain ⟨k, rfl⟩ : ∃ v, v = zz := ⟨_, rfl⟩
 replace hx : k ≤ x.2.1.length := hx
 have hw := fun h => a1T a1a x.2.1 k h
 show Ok _ _ _ _ _ (⟨[(2, .box 2 0), (3, .box 3 0), (12, .one (.dv [] (a0t (x.2.1)))), (13, .one (.dv [] (.int .i64 ((((x.2.1)).length : Int))))), (14, .one (.dv [] (.int .i64 ((k : Int)))))], [(2, 89, [(.dv [] (.str (ByteArray.empty))), .nil, (.dv [] (.int .i64 (0)))]), (3, 89, [(.dv [] (.str (x.1))), (.key 30), (.dv [] (.int .i64 (x.2.2)))])], [(30, some (a0d false (.sl 128 4 ((x.2.1.take k).length) ((x.2.1.take k).flatMap a0E))))]⟩ : St)
 iterate 3 refine z ?_
 refine a0p ?_
 refine yQ rfl (fun c1 => ?_) fun c1 => ?_
 ·have d1 := c5p c1
  have hk2 : k < x.2.1.length := by omega
  have hlen : x.2.1.length ≤ 1099511627776 := by have h3 : a0v x = x.1.size + (x.2.1.length + wSum a1a x.2.1) := rfl; omega
  have hrec : a1a (x.2.1.getD (k : Int).toNat default) ≤ 1099511627776 := by have := hw hk2; have h3 : a0v x = x.1.size + (x.2.1.length + wSum a1a x.2.1) := rfl; omega
  iterate 10 refine z ?_
  refine a4G [0, 1, 2, 3, 4] (oB := [2, 3, 5]) (oK := [30]) (by kernel_rfl) rfl rfl ?_
  refine zD 0 ?_
  refine zD 1 ?_
  refine zD 2 ?_
  refine a3L 21000 3 rfl (by kernel_rfl) rfl rfl rfl Tryz.call99 (b7g (by first | omega | exact Nat.le_trans (a6b _) hrec | exact Nat.le_trans (a6b _) (Nat.le_trans hrec (by decide)))) (a0f (a0a rfl) (a0l (a0c a0b (a0c a0b (a0c a0b (a0c a0b a0m))))) a0n) rfl rfl rfl rfl rfl ?_
  refine a6m (k := 22) (js := [28003]) 4 hT rfl (by kernel_rfl) rfl rfl rfl rfl rfl rfl rfl rfl rfl (a0a rfl) rfl rfl (a0o (a0C rfl) (a0o (a0C rfl) (a0o (a0C rfl) (a0o (a1Y rfl) a1e rfl) rfl) rfl) rfl) (by decide) (by decide) rfl rfl (by decide) ?_
  simp only [a0i, a0h, SV.kill, CV.kill, kk, Nat.reduceBEq]
  refine a3c [5, 6, 7] rfl rfl (by kernel_rfl) ?_
  refine a4r (k := 30) (j := 22) (cs := (x.2.1.take (k + 1)).flatMap a0E) (n := (x.2.1.take (k + 1)).length) hT rfl rfl rfl rfl rfl rfl rfl (a0a rfl) rfl rfl rfl (a0a rfl) rfl rfl (by decide) (by dsimp only [a0d]; simp only [c5t]; omega) (by dsimp only [a0d]; simp only [c5t]; omega) ((b1j hk2).2) ((b1j hk2).1) ?_
  simp only [a0i, a0h, SV.kill, CV.kill, kk, Nat.reduceBEq]
  iterate 2 refine z ?_
  refine a1j ?_
  iterate 2 refine z ?_
  refine a0j ?_
  iterate 3 refine z ?_
  refine ⟨k + 1, ?_, ?_, a0e ⟨rfl, rfl, rfl, rfl, rfl, trivial⟩ ⟨rfl, rfl, trivial⟩ ⟨rfl, trivial⟩ rfl⟩
  ·omega
  ·omega
 ·have d1 := c5q c1
  iterate 9 refine z ?_
  refine a0r (σ' := ⟨[(2, .box 2 0)], [(2, 89, [(.dv [] (.str (x.1))), (.key 30), (.dv [] (.int .i64 (x.2.2)))])], [(30, some (a0d false (a0t (x.2.1))))]⟩) (a0e ⟨rfl, trivial⟩ ⟨rfl, trivial⟩ ⟨(congrArg (fun l : List a0Q => some (some (KC.mk false 128 4 l.length (l.flatMap a0E)))) (List.take_of_length_le (by omega))), trivial⟩ rfl) ?_
  refine z ?_
  refine a1B (a0K hT rfl rfl rfl rfl) ?_
  exact ⟨rfl, rfl⟩
theorem a5e {x : a0I} (hb : a0v x ≤ 1099511627776) : KFn Tryz.prog 51 [.agg [(.dv [] (.str (x.1))), (.dv [] (a0t (x.2.1))), (.dv [] (.int .i64 (x.2.2)))]] (.agg [(.dv [] (.str (x.1))), (.key 30), (.dv [] (.int .i64 (x.2.2)))]) [(30, some (a0d false (a0t (x.2.1))))] := by
 refine ⟨a0u Tryz.func51 rfl Tryz.ntmps51 Tryz.results51 rfl (fun C => ?_)⟩
 refine yF 0 0 rfl rfl fun f0_0 => ?_
 refine yF 0 1 rfl rfl fun f0_1 => ?_
 refine yF 0 2 rfl rfl fun f0_2 => ?_
 iterate 9 refine z ?_
 refine yO rfl rfl (a2s hT hB rfl rfl rfl (a1x (a0a rfl) rfl rfl rfl rfl rfl (a1x (a0a rfl) rfl rfl rfl rfl rfl a2o))) rfl ?_
 iterate 3 refine z ?_
 refine a0p ?_
 refine a0p ?_
 refine a0r (a6X 30 (b := 3) (i := 1) (e := 128) (sz := 4) rfl rfl rfl rfl rfl) ?_
 simp only [a0i, a0h, SV.kill, CV.kill, kk, Nat.reduceBEq]
 refine a0j ?_
 iterate 3 refine z ?_
 refine a0W (ι := Nat) (fun zz => ⟨[(1, .box 1 0), (2, .box 2 0), (3, .box 3 0), (4, .one (.dv [] (.int .i64 ((zz : Int)))))], [(1, 89, [(.dv [] (.str (x.1))), (.dv [] (a0t (x.2.1))), (.dv [] (.int .i64 (x.2.2)))]), (2, 89, [(.dv [] (.str (ByteArray.empty))), .nil, (.dv [] (.int .i64 (0)))]), (3, 89, [(.dv [] (.str (x.1))), (.key 30), (.dv [] (.int .i64 (x.2.2)))])], [(30, some (a0d false (.sl 128 4 ((x.2.1.take zz).length) ((x.2.1.take zz).flatMap a0E))))]⟩) (fun zz => zz ≤ x.2.1.length) (fun zz => x.2.1.length - zz) (0) ?_ (a0e ⟨rfl, rfl, rfl, rfl, trivial⟩ ⟨rfl, rfl, rfl, trivial⟩ ⟨rfl, trivial⟩ rfl) (fun zz hx => ?_)
 ·exact Nat.zero_le _
 obtain ⟨k, rfl⟩ : ∃ v, v = zz := ⟨_, rfl⟩
 replace hx : k ≤ x.2.1.length := hx
 have hw := fun h => a1T a1a x.2.1 k h
 show Ok _ _ _ _ _ (⟨[(1, .box 1 0), (2, .box 2 0), (3, .box 3 0), (4, .one (.dv [] (.int .i64 ((k : Int)))))], [(1, 89, [(.dv [] (.str (x.1))), (.dv [] (a0t (x.2.1))), (.dv [] (.int .i64 (x.2.2)))]), (2, 89, [(.dv [] (.str (ByteArray.empty))), .nil, (.dv [] (.int .i64 (0)))]), (3, 89, [(.dv [] (.str (x.1))), (.key 30), (.dv [] (.int .i64 (x.2.2)))])], [(30, some (a0d false (.sl 128 4 ((x.2.1.take k).length) ((x.2.1.take k).flatMap a0E))))]⟩ : St)
 iterate 8 refine z ?_
 refine yQ rfl (fun c1 => ?_) fun c1 => ?_
 ·have d1 := c5p c1
  have hk2 : k < x.2.1.length := by omega
  have hlen : x.2.1.length ≤ 1099511627776 := by have h3 : a0v x = x.1.size + (x.2.1.length + wSum a1a x.2.1) := rfl; omega
  have hrec : a1a (x.2.1.getD (k : Int).toNat default) ≤ 1099511627776 := by have := hw hk2; have h3 : a0v x = x.1.size + (x.2.1.length + wSum a1a x.2.1) := rfl; omega
  iterate 4 refine z ?_
  refine a4G [0, 1, 2, 3, 4, 5, 6, 7, 8] (oB := [1, 2, 3]) (oK := [30]) (by kernel_rfl) rfl rfl ?_
  refine zD 0 ?_
  refine zD 1 ?_
  refine zD 2 ?_
  refine zD 3 ?_
  refine zD 4 ?_
  refine zD 5 ?_
  refine zD 6 ?_
  refine a3L 24000 7 rfl (by kernel_rfl) rfl rfl rfl Tryz.call87 (b1M (by first | omega | exact Nat.le_trans (a6b _) hrec | exact Nat.le_trans (a6b _) (Nat.le_trans hrec (by decide)))) (a0f (a0a rfl) (a0l (a0c a0b (a0c a0b (a0c a0b (a0c a0b a0m))))) a0n) rfl rfl rfl rfl rfl ?_
  refine a6m (k := 25) (js := [31003]) 8 hT rfl (by kernel_rfl) rfl rfl rfl rfl rfl rfl rfl rfl rfl (a0a rfl) rfl rfl (a0o (a0C rfl) (a0o (a0C rfl) (a0o (a0C rfl) (a0o (a1Y rfl) a1e rfl) rfl) rfl) rfl) (by decide) (by decide) rfl rfl (by decide) ?_
  simp only [a0i, a0h, SV.kill, CV.kill, kk, Nat.reduceBEq]
  refine a3c [9, 10, 11] rfl rfl (by kernel_rfl) ?_
  refine a4r (k := 30) (j := 25) (cs := (x.2.1.take (k + 1)).flatMap a0E) (n := (x.2.1.take (k + 1)).length) hT rfl rfl rfl rfl rfl rfl rfl (a0a rfl) rfl rfl rfl (a0a rfl) rfl rfl (by decide) (by dsimp only [a0d]; simp only [c5t]; omega) (by dsimp only [a0d]; simp only [c5t]; omega) ((b1j hk2).2) ((b1j hk2).1) ?_
  simp only [a0i, a0h, SV.kill, CV.kill, kk, Nat.reduceBEq]
  iterate 2 refine z ?_
  refine a1j ?_
  iterate 2 refine z ?_
  refine a0j ?_
  iterate 4 refine z ?_
  refine ⟨k + 1, ?_, ?_, a0e ⟨rfl, rfl, rfl, rfl, trivial⟩ ⟨rfl, rfl, rfl, trivial⟩ ⟨rfl, trivial⟩ rfl⟩
  ·omega
  ·omega
 ·have d1 := c5q c1
  iterate 9 refine z ?_
  refine a0r (σ' := ⟨[(2, .box 2 0)], [(2, 89, [(.dv [] (.str (x.1))), (.key 30), (.dv [] (.int .i64 (x.2.2)))])], [(30, some (a0d false (a0t (x.2.1))))]⟩) (a0e ⟨rfl, trivial⟩ ⟨rfl, trivial⟩ ⟨(congrArg (fun l : List a0Q => some (some (KC.mk false 128 4 l.length (l.flatMap a0E)))) (List.take_of_length_le (by omega))), trivial⟩ rfl) ?_
  refine z ?_
  refine a1B (a0K hT rfl rfl rfl rfl) ?_
  exact ⟨rfl, rfl⟩
def a2u (k : a1g) : List a0Q → Nat
 | [] => 0
 | y :: ys => if a2W y.1 k < 0 then a2u k ys + 1 else 0
def a2K (l : List a0Q) (i : Nat) (r : a0J) : List a0Q := l.set i ((l.getD i default).1, r)
def a4n (x : a0I) (k : a1g) : Int := if decide (k.1 = 1) && (decide (x.2.2 + 1 ≤ k.2.1) && decide (k.2.1 ≤ 1000000)) then k.2.1 else x.2.2
def a1f (x : a0I) (k : a1g) (r : a0J) : a0I × Bool :=
 if !a1E x || !a1H k || !a1C r then (x, false)
 else if 0 ≤ a0X x k then ((x.1, a2K x.2.1 (a0X x k).toNat r, x.2.2), true)
 else if 16 ≤ x.2.1.length then (x, false)
 else ((x.1, a2l x.2.1 (a2u k x.2.1) (k, r), a4n x k), true)
theorem a5N {x : a0I} {k : a1g} (h : 0 ≤ a0X x k) : a0X x k < x.2.1.length := by
 rcases a7W (p := fun y : a0Q => kEq y.1 k) x.2.1 0 (by omega) with h1 | h1
 ·unfold a0X; omega
 ·unfold a0X at h; omega
theorem c0t {x : a0I} {k : a1g} {r : a0J} (h : (!a1E x || !a1H k) = true) : a1f x k r = (x, false) := by
 rw [a1f, if_pos (by rw [h]; rfl)]
theorem b1R {l : List a0Q} {i : Nat} {r : a0J} : (a2K l i r).length = l.length := by simp [a2K]
theorem b2L (l : List a0Q) : (l.flatMap a0E).length = l.length * 4 := by
 induction l with
 | nil => rfl
 | cons x l ih => rw [List.flatMap_cons, c5s, ih, List.length_cons]; show 4 + l.length * 4 = (l.length + 1) * 4; omega
theorem b2u {l : List a0Q} {j : Nat} (h : j < l.length) : l.drop j = l.getD j default :: l.drop (j + 1) := by
 rw [List.drop_eq_getElem_cons h]
 simp [List.getD, List.getElem?_eq_getElem h]
theorem b7H {k : a1g} {l : List a0Q} {j : Nat} (hp : a2u k l = j + a2u k (l.drop j)) (h : (decide ((j : Int) < (l.length : Int)) && decide (a2W (l.getD (j : Int).toNat default).1 k < 0)) = true) : j < l.length ∧ a2u k l = (j + 1) + a2u k (l.drop (j + 1)) := by
 obtain ⟨h1, h2⟩ := (Bool.and_eq_true _ _ ▸ h : _ ∧ _)
 have h1 := c5p h1
 have h2 := c5p h2
 rw [Int.toNat_natCast] at h2
 have h3 : j < l.length := by omega
 refine ⟨h3, ?_⟩
 rw [hp, b2u h3, a2u, if_pos h2]
 omega
theorem b7B {k : a1g} {l : List a0Q} {j : Nat} (hj : j ≤ l.length) (hp : a2u k l = j + a2u k (l.drop j)) (h : (decide ((j : Int) < (l.length : Int)) && decide (a2W (l.getD (j : Int).toNat default).1 k < 0)) = false) : a2u k l = j := by
 rcases Nat.lt_or_ge j l.length with h3 | h3
 ·rw [decide_eq_true (by omega : (j : Int) < (l.length : Int)), Bool.true_and] at h
  have h2 := c5q h
  rw [Int.toNat_natCast] at h2
  rw [hp, b2u h3, a2u, if_neg h2]
  omega
 ·rw [hp, List.drop_eq_nil_of_le h3, a2u]; omega
theorem b8b {l : List a0Q} {i : Nat} {r : a0J} (hi : i < l.length) : a1c (i * 4 + 3) [a0z r] (l.flatMap a0E) = (a2K l i r).flatMap a0E := by
 obtain ⟨h1, h2⟩ := a6Z (enc := a0E) (sz := 4) (fun _ => rfl) i l
 have e : l.flatMap a0E = (l.take i).flatMap a0E ++ (a0E (l.getD i default) ++ (l.drop (i + 1)).flatMap a0E) := by
  rw [← List.flatMap_cons, ← b2u hi, ← List.flatMap_append, List.take_append_drop]
 have e2 : (a2K l i r).flatMap a0E = (l.take i).flatMap a0E ++ (a0E ((l.getD i default).1, r) ++ (l.drop (i + 1)).flatMap a0E) := by
  rw [a2K, List.set_eq_take_append_cons_drop, if_pos hi, List.flatMap_append, List.flatMap_cons]
 have hl : ((l.take i).flatMap a0E).length = i * 4 := by rw [b2L, c5t]; omega
 rw [e, e2]
 exact a1S (pre := (l.take i).flatMap a0E) (B := a0E (l.getD i default)) (B' := a0E ((l.getD i default).1, r)) (post := (l.drop (i + 1)).flatMap a0E) (m := i * 4) (off := i * 4 + 3) (j := 3) hl rfl rfl (Nat.le_refl _)
def a6x (p : Option a1g) (k : a1g) : Bool := match p with | none => true | some q => decide (a2W q k < 0)
def okL : Option a1g → List a0Q → Bool
 | _, [] => true
 | p, y :: ys => a1H y.1 && a1C y.2 && a6x p y.1 && okL (some y.1) ys
def a8z (p : Option a1g) (l : List a0Q) (i : Nat) : Bool := (!a1H (l.getD i default).1 || !a1C (l.getD i default).2) || !(a6x (if i = 0 then p else some (l.getD (i - 1) default).1) (l.getD i default).1)
theorem b6I : ∀ (l : List a0Q) (p : Option a1g), okL p l = (List.range l.length).all (fun i => !a8z p l i)
 | [], _ => rfl
 | y :: ys, p => by
  rw [okL, b6I ys (some y.1), List.length_cons, List.range_succ_eq_map, List.all_cons, List.all_map]
  congr 1
  ·simp [a8z]
  ·congr 1
   funext i
   cases i with
   | zero => simp [a8z]
   | succ i => simp [a8z]
theorem b0U (s : a0I) : a1E s = (okL none s.2.1 && (a3l s.1 && decide ((s.2.1.length : Int) ≤ 16) && (decide ((0 : Int) ≤ s.2.2) && decide (s.2.2 ≤ 1000000)))) := by
 rw [a1E, b6I]
 congr 2
 funext i
 cases i with
 | zero => simp [a4u, a8z, a6x]
 | succ i =>
  have e : (((i + 1 : Nat) : Int) - 1).toNat = i := by omega
  have e2 : (((i + 1 : Nat) : Int)).toNat = i + 1 := by omega
  have e3 : decide ((0 : Int) < ((i + 1 : Nat) : Int)) = true := decide_eq_true (by omega)
  simp only [a4u, a8z, a6x, e, e2, e3, Bool.true_and, Nat.succ_ne_zero, if_false, Nat.add_sub_cancel]
  congr 2
  by_cases h : a2W (s.2.1.getD i default).1 (s.2.1.getD (i + 1) default).1 < 0
  ·rw [decide_eq_true h, decide_eq_false (by omega)]; rfl
  ·rw [decide_eq_false h, decide_eq_true (by omega)]; rfl
theorem b9y {a b : Str} (h : a4D a b = 0) : sEq a b = true := by
 have e := a7e a b
 unfold a4D at h
 cases h1 : sLt a b <;> cases h2 : sLt b a <;> simp_all
theorem b9s {a b : a1g} (ha : a1H a = true) (hb : a1H b = true) (h : a2W a b = 0) : kEq a b = true := by
 have hg : (!a1H a || !a1H b) = false := by rw [ha, hb]; rfl
 by_cases h1 : a.1 = b.1
 ·by_cases h2 : a.2.1 = b.2.1
  ·rw [a9o hg h1 h2] at h
   rw [kEq, decide_eq_true h1, decide_eq_true h2, b9y h]; rfl
  ·rw [a9t hg h1 h2] at h; exact absurd (a7i.1 h) h2
 ·rw [a9c hg h1] at h; exact absurd (a7i.1 h) h1
theorem b7P {k : a1g} {r : a0J} (hk : a1H k = true) : ∀ (l : List a0Q) (p : Option a1g), okL p l = true → l.any (fun y : a0Q => kEq y.1 k) = false → a6x p k = true → okL p (a2l l (a2u k l) (k, r)) = a1C r
 | [], p, _, _, hp => by simp [a2l, a2u, okL, hk, hp]
 | y :: ys, p, hl, hn, hp => by
  simp only [okL, Bool.and_eq_true] at hl
  obtain ⟨⟨⟨h1, h2⟩, h3⟩, h4⟩ := hl
  simp only [List.any_cons, Bool.or_eq_false_iff] at hn
  by_cases hc : a2W y.1 k < 0
  ·have ih := b7P (r := r) hk ys (some y.1) h4 hn.2 (by simpa [a6x] using hc)
   rw [a2u, if_pos hc]
   have e : a2l (y :: ys) (a2u k ys + 1) (k, r) = y :: a2l ys (a2u k ys) (k, r) := by simp [a2l]
   rw [e, okL, h1, h2, h3, ih]; rfl
  ·rw [a2u, if_neg hc]
   have e : a2l (y :: ys) 0 (k, r) = (k, r) :: y :: ys := by simp [a2l]
   have h0 : ¬ a2W y.1 k = 0 := fun h => by
    have := b9s h1 hk h
    rw [hn.1] at this; cases this
   have hs := a9F k y.1
   rw [e, okL, okL, hk, hp, h1, h2, h4]
   have : a6x (some k) y.1 = true := by simp only [a6x, decide_eq_true_eq]; omega
   rw [this]; simp
theorem b3T {r : a0J} : ∀ (l : List a0Q) (p : Option a1g) (i : Nat), okL p l = true → i < l.length → okL p (a2K l i r) = a1C r
 | [], _, _, _, h => by simp at h
 | y :: ys, p, 0, hl, _ => by
  simp only [okL, Bool.and_eq_true] at hl
  obtain ⟨⟨⟨h1, h2⟩, h3⟩, h4⟩ := hl
  simp [a2K, okL, h1, h3, h4]
 | y :: ys, p, i + 1, hl, h => by
  simp only [okL, Bool.and_eq_true] at hl
  obtain ⟨⟨⟨h1, h2⟩, h3⟩, h4⟩ := hl
  have ih := b3T (r := r) ys (some y.1) i h4 (by simpa using h)
  have e : a2K (y :: ys) (i + 1) r = y :: a2K ys i r := by simp [a2K]
  rw [e, okL, h1, h2, h3, ih]; rfl
theorem b6i {α : Type} {p : α → Bool} : ∀ (xs : List α) (i : Int), 0 ≤ i → a0q p xs i < 0 → xs.any p = false
 | [], _, _, _ => rfl
 | x :: xs, i, hi, h => by
  rw [a0q] at h
  split at h
  ·omega
  ·rename_i hp
   rw [List.any_cons, b6i xs (i + 1) (by omega) h]
   simpa using hp
theorem b6O {x : a0I} {i : Nat} {r : a0J} (hs : a1E x = true) (hi : i < x.2.1.length) : a1E (x.1, a2K x.2.1 i r, x.2.2) = a1C r := by
 rw [b0U] at hs ⊢
 simp only [Bool.and_eq_true] at hs
 obtain ⟨h1, ⟨h2, h3⟩, h4, h5⟩ := hs
 simp only [b1R, b3T _ _ _ h1 hi, h2, h3, h4, h5, Bool.and_self, Bool.and_true]
theorem b7A {x : a0I} {k : a1g} {r : a0J} {a : Int} (hs : a1E x = true) (hk : a1H k = true) (hf : a0X x k < 0) (ha : 0 ≤ a ∧ a ≤ 1000000) : a1E (x.1, a2l x.2.1 (a2u k x.2.1) (k, r), a) = (a1C r && decide (x.2.1.length < 16)) := by
 rw [b0U] at hs ⊢
 simp only [Bool.and_eq_true] at hs
 obtain ⟨h1, ⟨h2, h3⟩, h4, h5⟩ := hs
 simp only [a8o, b7P hk _ _ h1 (b6i _ 0 (by omega) hf) rfl, h2, decide_eq_true ha.1, decide_eq_true ha.2, Bool.and_self, Bool.and_true, Bool.true_and]
 congr 1
 exact decide_eq_decide.2 (by omega)
theorem b0a {a b : Bool} (h : (!a || !b) = false) : a = true ∧ b = true := by cases a <;> cases b <;> simp_all
theorem c1j {x : a0I} {k : a1g} {r : a0J} (h : (!a1E x || !a1H k) = false) (hf : 0 ≤ a0X x k) (ho : (!a1E (x.1, a2K x.2.1 (a0X x k).toNat r, x.2.2)) = true) : a1f x k r = (x, false) := by
 obtain ⟨h1, h2⟩ := b0a h
 have hl := a5N hf
 rw [b6O h1 (by omega)] at ho
 rw [a1f, if_pos (by rw [ho]; simp)]
theorem b8G {x : a0I} {k : a1g} {r : a0J} (h : (!a1E x || !a1H k) = false) (hf : 0 ≤ a0X x k) (ho : (!a1E (x.1, a2K x.2.1 (a0X x k).toNat r, x.2.2)) = false) : a1f x k r = ((x.1, a2K x.2.1 (a0X x k).toNat r, x.2.2), true) := by
 obtain ⟨h1, h2⟩ := b0a h
 have hl := a5N hf
 rw [b6O h1 (by omega)] at ho
 rw [a1f, if_neg (by rw [h, ho]; simp), if_pos hf]
theorem b5O {x : a0I} {k : a1g} (hs : a1E x = true) : 0 ≤ a4n x k ∧ a4n x k ≤ 1000000 := by
 rw [b0U] at hs
 simp only [Bool.and_eq_true, decide_eq_true_eq] at hs
 unfold a4n
 split
 ·rename_i h
  simp only [Bool.and_eq_true, decide_eq_true_eq] at h
  omega
 ·omega
theorem b6o {x : a0I} {k : a1g} (h : (decide (k.1 = 1) && decide (x.2.2 < k.2.1) && decide (k.2.1 ≤ 1000000)) = true) : k.2.1 = a4n x k := by
 simp only [Bool.and_eq_true, decide_eq_true_eq] at h
 rw [a4n, if_pos (by simp only [Bool.and_eq_true, decide_eq_true_eq]; omega)]
theorem b7m {x : a0I} {k : a1g} (h : (decide (k.1 = 1) && decide (x.2.2 < k.2.1) && decide (k.2.1 ≤ 1000000)) = false) : x.2.2 = a4n x k := by
 rw [a4n, if_neg]
 intro h2
 simp only [Bool.and_eq_true, decide_eq_true_eq] at h2
 rw [decide_eq_true h2.1, decide_eq_true (by omega : x.2.2 < k.2.1), decide_eq_true h2.2.2] at h
 cases h
theorem b6y {x : a0I} {k : a1g} {r : a0J} {j : Nat} {a : Int} (h : (!a1E x || !a1H k) = false) (hf : ¬ 0 ≤ a0X x k) (hj : a2u k x.2.1 = j) (ha : a = a4n x k) (ho : (!a1E (x.1, a2l x.2.1 j (k, r), a)) = true) : a1f x k r = (x, false) := by
 obtain ⟨h1, h2⟩ := b0a h
 subst hj; subst ha
 rw [b7A h1 h2 (by omega) (b5O h1)] at ho
 rw [a1f]
 split
 ·rfl
 ·rename_i h3
  rw [if_pos]
  rw [h, Bool.false_or] at h3
  have h4 : a1C r = true := by simpa using h3
  rw [h4, Bool.true_and] at ho
  simpa using ho
theorem b4K {x : a0I} {k : a1g} {r : a0J} {j : Nat} {a : Int} (h : (!a1E x || !a1H k) = false) (hf : ¬ 0 ≤ a0X x k) (hj : a2u k x.2.1 = j) (ha : a = a4n x k) (ho : (!a1E (x.1, a2l x.2.1 j (k, r), a)) = false) : a1f x k r = ((x.1, a2l x.2.1 j (k, r), a), true) := by
 obtain ⟨h1, h2⟩ := b0a h
 subst hj; subst ha
 rw [b7A h1 h2 (by omega) (b5O h1)] at ho
 have ho' : a1C r = true ∧ x.2.1.length < 16 := by
  simpa using ho
 rw [a1f, if_neg (by rw [h, ho'.1]; simp), if_neg hf, if_neg (by omega)]
theorem a9T {x : a0I} {k : a1g} {r : a0J} (hb : a0v x ≤ 1048576) (hb2 : r.length ≤ 1048576) : KFn Tryz.prog 139 [.agg [(.dv [] (.str (x.1))), (.dv [] (a0t (x.2.1))), (.dv [] (.int .i64 (x.2.2)))], .agg [(.dv [] (.int .i64 (k.1))), (.dv [] (.int .i64 (k.2.1))), (.dv [] (.str (k.2.2)))], .agg [(.dv [] (a0z (r)))]] (.tup [(true, [(.dv [] (.str ((a1f x k r).1.1))), (.key 9001), (.dv [] (.int .i64 ((a1f x k r).1.2.2)))]), (false, [(.dv [] (.bool ((a1f x k r).2)))])]) [(9001, some (a0d false (a0t ((a1f x k r).1.2.1))))] := by
 refine ⟨a0u Tryz.func139 rfl Tryz.ntmps139 Tryz.results139 rfl (fun C => ?_)⟩
 have hlen : x.2.1.length ≤ 1048576 := by have h3 : a0v x = x.1.size + (x.2.1.length + wSum a1a x.2.1) := rfl; omega
 refine yF 0 0 rfl rfl fun f0_0 => ?_
 refine yF 0 1 rfl rfl fun f0_1 => ?_
 refine yF 0 2 rfl rfl fun f0_2 => ?_
 refine yF 1 0 rfl rfl fun f1_0 => ?_
 refine yF 1 1 rfl rfl fun f1_1 => ?_
 refine yF 1 2 rfl rfl fun f1_2 => ?_
 refine yF 2 0 rfl rfl fun f2_0 => ?_
 iterate 10 refine z ?_
 refine zC Tryz.call70 ?_ (hf := a8B (s := x))
 iterate 3 refine z ?_
 refine a1t (a1l rfl rfl rfl rfl rfl) rfl rfl Tryz.call102 a6C (fun hg => (a0f (a0x rfl hg) (a0l (a0c a0b (a0c a0b (a0c a0b a0m)))) a0n)) rfl rfl ?_
 iterate 3 refine z ?_
 refine yQ rfl (fun c1 => ?_) fun c1 => ?_
 ·iterate 2 refine z ?_
  refine zK 8971 Tryz.call66 ?_ (hf := a5c (x := x) (by omega))
  iterate 3 refine z ?_
  rw [c0t c1]
  refine a0r (σ' := ⟨[(6, .box 6 0), (7, .one (.dv [] (.bool (false))))], [(6, 89, [(.dv [] (.str ((x).1))), (.key 9001), (.dv [] (.int .i64 ((x).2.2)))])], [(9001, some (a0d false (a0t (x.2.1))))]⟩) (a0e ⟨rfl, rfl, trivial⟩ ⟨rfl, trivial⟩ ⟨rfl, trivial⟩ rfl) ?_
  iterate 2 refine z ?_
  refine a1W (a0K hT rfl rfl rfl rfl) (a0B rfl) rfl rfl ?_
  first | exact ⟨rfl, rfl⟩ | skip
 ·iterate 4 refine z ?_
  refine zK 8971 Tryz.call66 ?_ (hf := a5c (x := x) (by omega))
  iterate 7 refine z ?_
  refine zC Tryz.call138 ?_ (hf := b1c)
  iterate 6 refine z ?_
  refine yQ rfl (fun c2 => ?_) fun c2 => ?_
  ·have d2 := c5p c2
   have hlt := a5N d2
   refine a1o (oB := [3, 4, 5, 6, 8]) (oK := [9001]) (by kernel_rfl) rfl rfl ?_
   refine zD 0 ?_
   refine zD 1 ?_
   refine zD 2 ?_
   refine zD 3 ?_
   refine a3L 9000 4 rfl (by kernel_rfl) rfl rfl rfl Tryz.call131 (a7g (by omega)) (a0f (a0a rfl) (a0l (a0c a0b a0m)) a0n) rfl rfl rfl rfl rfl ?_
   refine a1X 5 rfl (by kernel_rfl) rfl rfl (a1q (i := (a0X (x) (k)).toNat) hT rfl rfl rfl (a0a rfl) rfl (a0a rfl) (by omega) (by show _ < ((x.2.1)).length; omega)) rfl rfl rfl rfl ?_
   refine zD 6 ?_
   refine a3c [7] rfl rfl (by kernel_rfl) ?_
   refine a1u (js := [9003]) (cs := (a2K x.2.1 (a0X x k).toNat r).flatMap a0E) hT rfl rfl rfl rfl (a0a rfl) (a0a rfl) rfl rfl rfl rfl (a0o (a1Y rfl) a1e rfl) (by decide) (by decide) rfl (by show _ ≤ List.length ((x.2.1).flatMap a0E); rw [b2L]; omega) (b8b (by omega)) ?_
   simp only [a0i, a0h, SV.kill, CV.kill, kk, Nat.reduceBEq]
   refine z ?_
   refine a0p ?_
   refine a0p ?_
   refine a0r (a5S (k := 9001) (c' := a0d false (a0t (a2K x.2.1 (a0X x k).toNat r))) rfl (congrArg (fun n => KC.mk false 128 4 n ((a2K x.2.1 (a0X x k).toNat r).flatMap a0E)) b1R.symm) rfl) ?_
   refine a0j ?_
   refine z ?_
   refine a3k rfl rfl rfl Tryz.call70 (a8B (s := (x.1, a2K x.2.1 (a0X x k).toNat r, x.2.2))) (a0f (a0a rfl) (a0l (a0c a0b (a0c (a0L rfl rfl) (a0c a0b a0m)))) a0n) rfl rfl ?_
   iterate 2 refine z ?_
   refine yQ rfl (fun c3 => ?_) fun c3 => ?_
   ·refine a0p ?_
    refine a0r (σ' := ⟨[(3, .box 3 0), (6, .box 6 0), (7, .one (.dv [] (.bool (false))))], [(3, 89, [(.dv [] (.str (x.1))), (.dv [] (a0t (x.2.1))), (.dv [] (.int .i64 (x.2.2)))]), (6, 89, [(.dv [] (.str (ByteArray.empty))), .nil, (.dv [] (.int .i64 (0)))])], []⟩) (a0e ⟨rfl, rfl, rfl, trivial⟩ ⟨rfl, rfl, trivial⟩ trivial rfl) ?_
    refine a0j ?_
    refine z ?_
    refine zK 8971 Tryz.call66 ?_ (hf := a5c (x := x) (by omega))
    iterate 3 refine z ?_
    rw [c1j c1 d2 c3]
    refine a0r (σ' := ⟨[(6, .box 6 0), (7, .one (.dv [] (.bool (false))))], [(6, 89, [(.dv [] (.str ((x).1))), (.key 9001), (.dv [] (.int .i64 ((x).2.2)))])], [(9001, some (a0d false (a0t (x.2.1))))]⟩) (a0e ⟨rfl, rfl, trivial⟩ ⟨rfl, trivial⟩ ⟨rfl, trivial⟩ rfl) ?_
    iterate 2 refine z ?_
    refine a1W (a0K hT rfl rfl rfl rfl) (a0B rfl) rfl rfl ?_
    first | exact ⟨rfl, rfl⟩ | skip
   ·iterate 7 refine z ?_
    rw [b8G c1 d2 c3]
    refine a0r (σ' := ⟨[(6, .box 6 0), (7, .one (.dv [] (.bool (true))))], [(6, 89, [(.dv [] (.str ((x).1))), (.key 9001), (.dv [] (.int .i64 ((x).2.2)))])], [(9001, some (a0d false (a0t (a2K x.2.1 (a0X x k).toNat r))))]⟩) (a0e ⟨rfl, rfl, trivial⟩ ⟨rfl, trivial⟩ ⟨rfl, trivial⟩ rfl) ?_
    refine z ?_
    refine a1W (a0K hT rfl rfl rfl rfl) (a0B rfl) rfl rfl ?_
    first | exact ⟨rfl, rfl⟩ | skip
  ·have d2 := c5q c2
   iterate 5 refine z ?_
   refine a0W (ι := Nat) (fun zz => ⟨[(3, .box 3 0), (4, .box 4 0), (5, .box 5 0), (6, .box 6 0), (7, .one (.dv [] (.bool (false)))), (8, .box 8 0), (10, .one (.dv [] (.int .i64 ((zz : Int)))))], [(3, 89, [(.dv [] (.str (x.1))), (.dv [] (a0t (x.2.1))), (.dv [] (.int .i64 (x.2.2)))]), (4, 98, [(.dv [] (.int .i64 (k.1))), (.dv [] (.int .i64 (k.2.1))), (.dv [] (.str (k.2.2)))]), (5, 109, [(.dv [] (a0z (r)))]), (6, 89, [(.dv [] (.str (ByteArray.empty))), .nil, (.dv [] (.int .i64 (0)))]), (8, 89, [(.dv [] (.str ((x).1))), (.key 9001), (.dv [] (.int .i64 ((x).2.2)))])], [(9001, some (a0d false (.sl 128 4 (x.2.1.length) (x.2.1.flatMap a0E))))]⟩) (fun zz => zz ≤ x.2.1.length ∧ a2u k x.2.1 = zz + a2u k (x.2.1.drop zz)) (fun zz => x.2.1.length - zz) (0) ?_ (a0e ⟨rfl, rfl, rfl, rfl, rfl, rfl, rfl, trivial⟩ ⟨rfl, rfl, rfl, rfl, rfl, trivial⟩ ⟨rfl, trivial⟩ rfl) (fun zz hx => ?_)
   ·exact ⟨Nat.zero_le _, by simp⟩
   obtain ⟨j, rfl⟩ : ∃ v, v = zz := ⟨_, rfl⟩
   replace hx : j ≤ x.2.1.length ∧ a2u k x.2.1 = j + a2u k (x.2.1.drop j) := hx
   obtain ⟨hj, hp⟩ := hx
   show Ok _ _ _ _ _ (⟨[(3, .box 3 0), (4, .box 4 0), (5, .box 5 0), (6, .box 6 0), (7, .one (.dv [] (.bool (false)))), (8, .box 8 0), (10, .one (.dv [] (.int .i64 ((j : Int)))))], [(3, 89, [(.dv [] (.str (x.1))), (.dv [] (a0t (x.2.1))), (.dv [] (.int .i64 (x.2.2)))]), (4, 98, [(.dv [] (.int .i64 (k.1))), (.dv [] (.int .i64 (k.2.1))), (.dv [] (.str (k.2.2)))]), (5, 109, [(.dv [] (a0z (r)))]), (6, 89, [(.dv [] (.str (ByteArray.empty))), .nil, (.dv [] (.int .i64 (0)))]), (8, 89, [(.dv [] (.str ((x).1))), (.key 9001), (.dv [] (.int .i64 ((x).2.2)))])], [(9001, some (a0d false (.sl 128 4 (x.2.1.length) (x.2.1.flatMap a0E))))]⟩ : St)
   refine a0p ?_
   refine a0p ?_
   refine a1o (oB := [3, 4, 5, 6, 8]) (oK := [9001]) (by kernel_rfl) rfl rfl ?_
   refine zD 0 ?_
   refine zD 1 ?_
   refine a1X 2 rfl (by kernel_rfl) rfl rfl (a8F (dd := a0t x.2.1) (a3C hT rfl rfl (a0a rfl) rfl rfl) rfl rfl) rfl rfl rfl rfl ?_
   refine zD 3 ?_
   refine zD 4 ?_
   refine zD 5 ?_
   refine zDG 6 ?_
   refine a7k 7 rfl (by kernel_rfl) (a1l rfl rfl rfl rfl rfl) rfl (fun hg => a8F (dd := a0t x.2.1) (a3C hT rfl rfl (a0x rfl hg) rfl rfl) rfl rfl) rfl rfl rfl rfl ?_
   refine zDG 8 ?_
   refine zDG 9 ?_
   refine zDG 10 ?_
   refine zDG 11 ?_
   refine zDG 12 ?_
   refine a4f 13 rfl (by kernel_rfl) (a1l rfl rfl rfl rfl rfl) rfl rfl Tryz.call104 a8X (fun hg => (a0f (a0x rfl hg) (a0l (a0c a0b (a0c a0b (a0c a0b a0m)))) (a0f (a0x rfl hg) (a0l (a0c a0b (a0c a0b (a0c a0b a0m)))) a0n))) rfl rfl ?_
   refine zDG 14 ?_
   refine zD 15 ?_
   refine a1R (by kernel_rfl) ?_
   refine z ?_
   refine yQ rfl (fun c4 => ?_) fun c4 => ?_
   ·have hst := b7H hp c4
    have hst1 := hst.1
    iterate 3 refine z ?_
    refine a0j ?_
    iterate 3 refine z ?_
    refine a1j ?_
    iterate 2 refine z ?_
    refine ⟨j + 1, ?_, ?_, a0e ⟨rfl, rfl, rfl, rfl, rfl, rfl, rfl, trivial⟩ ⟨rfl, rfl, rfl, rfl, rfl, trivial⟩ ⟨rfl, trivial⟩ rfl⟩
    ·exact ⟨by omega, hst.2⟩
    ·omega
   ·have hpos := b7B hj hp c4
    iterate 5 refine z ?_
    refine a0p ?_
    refine a4G [0, 1, 2, 3, 4, 5, 6, 7] (oB := [3, 4, 5, 6, 8]) (oK := [9001]) (by kernel_rfl) rfl rfl ?_
    refine zD 0 ?_
    refine zD 1 ?_
    refine zD 2 ?_
    refine zD 3 ?_
    refine zD 4 ?_
    refine a3L 9000 5 rfl (by kernel_rfl) rfl rfl rfl Tryz.call131 (a7g (by omega)) (a0f (a0a rfl) (a0l (a0c a0b a0m)) a0n) rfl rfl rfl rfl rfl ?_
    refine a1X 6 rfl (by kernel_rfl) rfl rfl (a2s hT hB rfl rfl rfl (a1x (a0a rfl) rfl rfl rfl rfl rfl (a1x (a0a rfl) rfl rfl rfl rfl rfl a2o))) rfl rfl rfl rfl ?_
    refine a6m (k := 60) (js := [9003]) 7 hT rfl (by kernel_rfl) rfl rfl rfl rfl rfl rfl rfl rfl rfl (a0a rfl) rfl rfl (a0o (a0C rfl) (a0o (a0C rfl) (a0o (a0C rfl) (a0o (a1Y rfl) a1e rfl) rfl) rfl) rfl) (by decide) (by decide) rfl rfl (by decide) ?_
    simp only [a0i, a0h, SV.kill, CV.kill, kk, Nat.reduceBEq]
    refine a3c [8, 9, 10] rfl rfl (by kernel_rfl) ?_
    refine b1A (k := 9001) (j := 60) (cs := (a2l x.2.1 j (k, r)).flatMap a0E) (n := (a2l x.2.1 j (k, r)).length) (b6k rfl rfl (by decide)) rfl rfl Tryz.call136 rfl rfl (a0a rfl) rfl rfl rfl (a0a rfl) (by omega) (by dsimp only [a0d]; omega) (a0a rfl) rfl rfl rfl rfl (by decide) (by dsimp only [a0d]; omega) (by dsimp only [a0d]; omega) (by rw [a8o]) (b4t (o := x.2.1) (j := j) (y := (k, r))) ?_
    simp only [a0i, a0h, SV.kill, CV.kill, kk, Nat.reduceBEq]
    iterate 20 refine z ?_
    refine yQ rfl (fun c5 => ?_) fun c5 => ?_
    ·refine a0j ?_
     iterate 5 refine z ?_
     refine a0p ?_
     refine a0p ?_
     refine a0r (a5S (k := 9001) (c' := a0d false (a0t (a2l x.2.1 j (k, r)))) rfl (rfl) rfl) ?_
     refine a0j ?_
     refine z ?_
     refine a3k rfl rfl rfl Tryz.call70 (a8B (s := (x.1, a2l x.2.1 j (k, r), k.2.1))) (a0f (a0a rfl) (a0l (a0c a0b (a0c (a0L rfl rfl) (a0c a0b a0m)))) a0n) rfl rfl ?_
     iterate 2 refine z ?_
     refine yQ rfl (fun c6 => ?_) fun c6 => ?_
     ·refine a0p ?_
      refine a0r (σ' := ⟨[(3, .box 3 0), (6, .box 6 0), (7, .one (.dv [] (.bool (false))))], [(3, 89, [(.dv [] (.str (x.1))), (.dv [] (a0t (x.2.1))), (.dv [] (.int .i64 (x.2.2)))]), (6, 89, [(.dv [] (.str (ByteArray.empty))), .nil, (.dv [] (.int .i64 (0)))])], []⟩) (a0e ⟨rfl, rfl, rfl, trivial⟩ ⟨rfl, rfl, trivial⟩ trivial rfl) ?_
      refine a0j ?_
      refine z ?_
      refine zK 8971 Tryz.call66 ?_ (hf := a5c (x := x) (by omega))
      iterate 3 refine z ?_
      rw [b6y c1 d2 hpos (b6o c5) c6]
      refine a0r (σ' := ⟨[(6, .box 6 0), (7, .one (.dv [] (.bool (false))))], [(6, 89, [(.dv [] (.str ((x).1))), (.key 9001), (.dv [] (.int .i64 ((x).2.2)))])], [(9001, some (a0d false (a0t (x.2.1))))]⟩) (a0e ⟨rfl, rfl, trivial⟩ ⟨rfl, trivial⟩ ⟨rfl, trivial⟩ rfl) ?_
      iterate 2 refine z ?_
      refine a1W (a0K hT rfl rfl rfl rfl) (a0B rfl) rfl rfl ?_
      first | exact ⟨rfl, rfl⟩ | skip
     ·iterate 7 refine z ?_
      rw [b4K c1 d2 hpos (b6o c5) c6]
      refine a0r (σ' := ⟨[(6, .box 6 0), (7, .one (.dv [] (.bool (true))))], [(6, 89, [(.dv [] (.str ((x).1))), (.key 9001), (.dv [] (.int .i64 (k.2.1)))])], [(9001, some (a0d false (a0t (a2l x.2.1 j (k, r)))))]⟩) (a0e ⟨rfl, rfl, trivial⟩ ⟨rfl, trivial⟩ ⟨rfl, trivial⟩ rfl) ?_
      refine z ?_
      refine a1W (a0K hT rfl rfl rfl rfl) (a0B rfl) rfl rfl ?_
      first | exact ⟨rfl, rfl⟩ | skip
    ·iterate 2 refine z ?_
     refine a0p ?_
     refine a0p ?_
     refine a0r (a5S (k := 9001) (c' := a0d false (a0t (a2l x.2.1 j (k, r)))) rfl (rfl) rfl) ?_
     refine a0j ?_
     refine z ?_
     refine a3k rfl rfl rfl Tryz.call70 (a8B (s := (x.1, a2l x.2.1 j (k, r), x.2.2))) (a0f (a0a rfl) (a0l (a0c a0b (a0c (a0L rfl rfl) (a0c a0b a0m)))) a0n) rfl rfl ?_
     iterate 2 refine z ?_
     refine yQ rfl (fun c7 => ?_) fun c7 => ?_
     ·refine a0p ?_
      refine a0r (σ' := ⟨[(3, .box 3 0), (6, .box 6 0), (7, .one (.dv [] (.bool (false))))], [(3, 89, [(.dv [] (.str (x.1))), (.dv [] (a0t (x.2.1))), (.dv [] (.int .i64 (x.2.2)))]), (6, 89, [(.dv [] (.str (ByteArray.empty))), .nil, (.dv [] (.int .i64 (0)))])], []⟩) (a0e ⟨rfl, rfl, rfl, trivial⟩ ⟨rfl, rfl, trivial⟩ trivial rfl) ?_
      refine a0j ?_
      refine z ?_
      refine zK 8971 Tryz.call66 ?_ (hf := a5c (x := x) (by omega))
      iterate 3 refine z ?_
      rw [b6y c1 d2 hpos (b7m c5) c7]
      refine a0r (σ' := ⟨[(6, .box 6 0), (7, .one (.dv [] (.bool (false))))], [(6, 89, [(.dv [] (.str ((x).1))), (.key 9001), (.dv [] (.int .i64 ((x).2.2)))])], [(9001, some (a0d false (a0t (x.2.1))))]⟩) (a0e ⟨rfl, rfl, trivial⟩ ⟨rfl, trivial⟩ ⟨rfl, trivial⟩ rfl) ?_
      iterate 2 refine z ?_
      refine a1W (a0K hT rfl rfl rfl rfl) (a0B rfl) rfl rfl ?_
      first | exact ⟨rfl, rfl⟩ | skip
     ·iterate 7 refine z ?_
      rw [b4K c1 d2 hpos (b7m c5) c7]
      refine a0r (σ' := ⟨[(6, .box 6 0), (7, .one (.dv [] (.bool (true))))], [(6, 89, [(.dv [] (.str ((x).1))), (.key 9001), (.dv [] (.int .i64 ((x).2.2)))])], [(9001, some (a0d false (a0t (a2l x.2.1 j (k, r)))))]⟩) (a0e ⟨rfl, rfl, trivial⟩ ⟨rfl, trivial⟩ ⟨rfl, trivial⟩ rfl) ?_
      refine z ?_
      refine a1W (a0K hT rfl rfl rfl rfl) (a0B rfl) rfl rfl ?_
      first | exact ⟨rfl, rfl⟩ | skip
theorem c0T {x : a0I} {b c : Bool} (h : (!a1E x || b || c) = false) : 0 ≤ x.2.2 ∧ x.2.2 ≤ 1000000 := by
 have hs : a1E x = true := by cases hh : a1E x <;> simp_all
 rw [b0U] at hs
 simp only [Bool.and_eq_true, decide_eq_true_eq] at hs
 omega
theorem c0f {x : a0I} {k : a1g} {r : a0J} (h : (!a1E x || !a1H k || !a1C r) = false) (hf : 0 ≤ a0X x k) : a1f x k r = ((x.1, a2K x.2.1 (a0X x k).toNat r, x.2.2), true) := by
 rw [a1f, if_neg (by rw [h]; simp), if_pos hf]
theorem c1U {x : a0I} {k : a1g} {r : a0J} (h : (!a1E x || !a1H k || !a1C r) = false) (hf : ¬ 0 ≤ a0X x k) (hl : (16 : Int) ≤ (x.2.1.length : Int)) : a1f x k r = (x, false) := by
 rw [a1f, if_neg (by rw [h]; simp), if_neg hf, if_pos (by omega)]
theorem b8r {x : a0I} {k : a1g} {r : a0J} {j : Nat} {a : Int} (h : (!a1E x || !a1H k || !a1C r) = false) (hf : ¬ 0 ≤ a0X x k) (hl : ¬ (16 : Int) ≤ (x.2.1.length : Int)) (hj : a2u k x.2.1 = j) (ha : a = a4n x k) : a1f x k r = ((x.1, a2l x.2.1 j (k, r), a), true) := by
 subst hj; subst ha
 rw [a1f, if_neg (by rw [h]; simp), if_neg hf, if_neg (by omega)]
theorem c1C {x : a0I} {k : a1g} (h : (decide (k.1 = 1) && (decide (x.2.2 + 1 ≤ k.2.1) && decide (k.2.1 ≤ 1000000))) = true) : k.2.1 = a4n x k := by rw [a4n, if_pos h]
theorem b9Z {x : a0I} {k : a1g} (h : (decide (k.1 = 1) && (decide (x.2.2 + 1 ≤ k.2.1) && decide (k.2.1 ≤ 1000000))) = false) : x.2.2 = a4n x k := by rw [a4n, if_neg (by rw [h]; simp)]
theorem a9M {x : a0I} {k : a1g} {r : a0J} (hb : a0v x ≤ 1048576) (hb2 : r.length ≤ 1048576) : KFn Tryz.prog 124 [.agg [(.dv [] (.str (x.1))), (.dv [] (a0t (x.2.1))), (.dv [] (.int .i64 (x.2.2)))], .agg [(.dv [] (.int .i64 (k.1))), (.dv [] (.int .i64 (k.2.1))), (.dv [] (.str (k.2.2)))], .agg [(.dv [] (a0z (r)))]] (.tup [(true, [(.dv [] (.str ((a1f x k r).1.1))), (.key 9001), (.dv [] (.int .i64 ((a1f x k r).1.2.2)))]), (false, [(.dv [] (.bool ((a1f x k r).2)))])]) [(9001, some (a0d false (a0t ((a1f x k r).1.2.1))))] := by
 refine ⟨a0u Tryz.func124 rfl Tryz.ntmps124 Tryz.results124 rfl (fun C => ?_)⟩
 have hlen : x.2.1.length ≤ 1048576 := by have h3 : a0v x = x.1.size + (x.2.1.length + wSum a1a x.2.1) := rfl; omega
 refine yF 0 0 rfl rfl fun f0_0 => ?_
 refine yF 0 1 rfl rfl fun f0_1 => ?_
 refine yF 0 2 rfl rfl fun f0_2 => ?_
 refine yF 1 0 rfl rfl fun f1_0 => ?_
 refine yF 1 1 rfl rfl fun f1_1 => ?_
 refine yF 1 2 rfl rfl fun f1_2 => ?_
 refine yF 2 0 rfl rfl fun f2_0 => ?_
 iterate 10 refine z ?_
 refine zC Tryz.call54 ?_ (hf := b2N (s := x))
 iterate 3 refine z ?_
 refine a1t (a1l rfl rfl rfl rfl rfl) rfl rfl Tryz.call89 a6Y (fun hg => (a0f (a0x rfl hg) (a0l (a0c a0b (a0c a0b (a0c a0b a0m)))) a0n)) rfl rfl ?_
 iterate 4 refine z ?_
 refine a1t (a1l rfl rfl rfl rfl rfl) rfl rfl Tryz.call90 a7M (fun hg => (a0f (a0x rfl hg) (a0l (a0c a0b a0m)) a0n)) rfl rfl ?_
 iterate 3 refine z ?_
 refine yQ rfl (fun c1 => ?_) fun c1 => ?_
 ·iterate 2 refine z ?_
  refine zK 8971 Tryz.call51 ?_ (hf := a5e (x := x) (by omega))
  iterate 3 refine z ?_
  rw [a1f, if_pos c1]
  refine a0r (σ' := ⟨[(6, .box 6 0), (7, .one (.dv [] (.bool (false))))], [(6, 89, [(.dv [] (.str ((x).1))), (.key 9001), (.dv [] (.int .i64 ((x).2.2)))])], [(9001, some (a0d false (a0t (x.2.1))))]⟩) (a0e ⟨rfl, rfl, trivial⟩ ⟨rfl, trivial⟩ ⟨rfl, trivial⟩ rfl) ?_
  iterate 2 refine z ?_
  refine a1W (a0K hT rfl rfl rfl rfl) (a0B rfl) rfl rfl ?_
  first | exact ⟨rfl, rfl⟩ | skip
 ·have hau := c0T c1
  iterate 4 refine z ?_
  refine zK 8971 Tryz.call51 ?_ (hf := a5e (x := x) (by omega))
  iterate 7 refine z ?_
  refine zC Tryz.call127 ?_ (hf := b0R)
  iterate 6 refine z ?_
  refine yQ rfl (fun c2 => ?_) fun c2 => ?_
  ·have d2 := c5p c2
   have hlt := a5N d2
   refine a0p ?_
   refine a1o (oB := [3, 4, 5, 6, 8]) (oK := [9001]) (by kernel_rfl) rfl rfl ?_
   refine zD 0 ?_
   refine zD 1 ?_
   refine zD 2 ?_
   refine zD 3 ?_
   refine a3L 9000 4 rfl (by kernel_rfl) rfl rfl rfl Tryz.call88 (a7m (by omega)) (a0f (a0a rfl) (a0l (a0c a0b a0m)) a0n) rfl rfl rfl rfl rfl ?_
   refine a1X 5 rfl (by kernel_rfl) rfl rfl (a1q (i := (a0X (x) (k)).toNat) hT rfl rfl rfl (a0a rfl) rfl (a0a rfl) (by omega) (by show _ < ((x.2.1)).length; omega)) rfl rfl rfl rfl ?_
   refine zD 6 ?_
   refine a3c [7] rfl rfl (by kernel_rfl) ?_
   refine a1u (js := [9003]) (cs := (a2K x.2.1 (a0X x k).toNat r).flatMap a0E) hT rfl rfl rfl rfl (a0a rfl) (a0a rfl) rfl rfl rfl rfl (a0o (a1Y rfl) a1e rfl) (by decide) (by decide) rfl (by show _ ≤ List.length ((x.2.1).flatMap a0E); rw [b2L]; omega) (b8b (by omega)) ?_
   simp only [a0i, a0h, SV.kill, CV.kill, kk, Nat.reduceBEq]
   refine z ?_
   refine a0p ?_
   refine a0r (a5S (k := 9001) (c' := a0d false (a0t (a2K x.2.1 (a0X x k).toNat r))) rfl (congrArg (fun n => KC.mk false 128 4 n ((a2K x.2.1 (a0X x k).toNat r).flatMap a0E)) b1R.symm) rfl) ?_
   refine a0j ?_
   iterate 4 refine z ?_
   rw [c0f c1 d2]
   refine a0r (σ' := ⟨[(6, .box 6 0), (7, .one (.dv [] (.bool (true))))], [(6, 89, [(.dv [] (.str ((x).1))), (.key 9001), (.dv [] (.int .i64 ((x).2.2)))])], [(9001, some (a0d false (a0t (a2K x.2.1 (a0X x k).toNat r))))]⟩) (a0e ⟨rfl, rfl, trivial⟩ ⟨rfl, trivial⟩ ⟨rfl, trivial⟩ rfl) ?_
   iterate 2 refine z ?_
   refine a1W (a0K hT rfl rfl rfl rfl) (a0B rfl) rfl rfl ?_
   first | exact ⟨rfl, rfl⟩ | skip
  ·have d2 := c5q c2
   iterate 9 refine z ?_
   refine yQ rfl (fun c3 => ?_) fun c3 => ?_
   ·have d3 := c5p c3
    iterate 5 refine z ?_
    rw [c1U c1 d2 d3]
    refine a0r (σ' := ⟨[(6, .box 6 0), (7, .one (.dv [] (.bool (false))))], [(6, 89, [(.dv [] (.str ((x).1))), (.key 9001), (.dv [] (.int .i64 ((x).2.2)))])], [(9001, some (a0d false (a0t (x.2.1))))]⟩) (a0e ⟨rfl, rfl, trivial⟩ ⟨rfl, trivial⟩ ⟨rfl, trivial⟩ rfl) ?_
    iterate 2 refine z ?_
    refine a1W (a0K hT rfl rfl rfl rfl) (a0B rfl) rfl rfl ?_
    first | exact ⟨rfl, rfl⟩ | skip
   ·have d3 := c5q c3
    iterate 7 refine z ?_
    refine a0W (ι := Nat) (fun zz => ⟨[(3, .box 3 0), (4, .box 4 0), (5, .box 5 0), (6, .box 6 0), (7, .one (.dv [] (.bool (false)))), (8, .box 8 0), (10, .one (.dv [] (.int .i64 ((zz : Int)))))], [(3, 89, [(.dv [] (.str (x.1))), (.dv [] (a0t (x.2.1))), (.dv [] (.int .i64 (x.2.2)))]), (4, 98, [(.dv [] (.int .i64 (k.1))), (.dv [] (.int .i64 (k.2.1))), (.dv [] (.str (k.2.2)))]), (5, 109, [(.dv [] (a0z (r)))]), (6, 89, [(.dv [] (.str (ByteArray.empty))), .nil, (.dv [] (.int .i64 (0)))]), (8, 89, [(.dv [] (.str ((x).1))), (.key 9001), (.dv [] (.int .i64 ((x).2.2)))])], [(9001, some (a0d false (.sl 128 4 (x.2.1.length) (x.2.1.flatMap a0E))))]⟩) (fun zz => zz ≤ x.2.1.length ∧ a2u k x.2.1 = zz + a2u k (x.2.1.drop zz)) (fun zz => x.2.1.length - zz) (0) ?_ (a0e ⟨rfl, rfl, rfl, rfl, rfl, rfl, rfl, trivial⟩ ⟨rfl, rfl, rfl, rfl, rfl, trivial⟩ ⟨rfl, trivial⟩ rfl) (fun zz hx => ?_)
    ·exact ⟨Nat.zero_le _, by simp⟩
    obtain ⟨j, rfl⟩ : ∃ v, v = zz := ⟨_, rfl⟩
    replace hx : j ≤ x.2.1.length ∧ a2u k x.2.1 = j + a2u k (x.2.1.drop j) := hx
    obtain ⟨hj, hp⟩ := hx
    show Ok _ _ _ _ _ (⟨[(3, .box 3 0), (4, .box 4 0), (5, .box 5 0), (6, .box 6 0), (7, .one (.dv [] (.bool (false)))), (8, .box 8 0), (10, .one (.dv [] (.int .i64 ((j : Int)))))], [(3, 89, [(.dv [] (.str (x.1))), (.dv [] (a0t (x.2.1))), (.dv [] (.int .i64 (x.2.2)))]), (4, 98, [(.dv [] (.int .i64 (k.1))), (.dv [] (.int .i64 (k.2.1))), (.dv [] (.str (k.2.2)))]), (5, 109, [(.dv [] (a0z (r)))]), (6, 89, [(.dv [] (.str (ByteArray.empty))), .nil, (.dv [] (.int .i64 (0)))]), (8, 89, [(.dv [] (.str ((x).1))), (.key 9001), (.dv [] (.int .i64 ((x).2.2)))])], [(9001, some (a0d false (.sl 128 4 (x.2.1.length) (x.2.1.flatMap a0E))))]⟩ : St)
    refine a0p ?_
    refine a0p ?_
    refine a1o (oB := [3, 4, 5, 6, 8]) (oK := [9001]) (by kernel_rfl) rfl rfl ?_
    refine zD 0 ?_
    refine zD 1 ?_
    refine zD 2 ?_
    refine zD 3 ?_
    refine zD 4 ?_
    refine zD 5 ?_
    refine zDG 6 ?_
    refine zDG 7 ?_
    refine zDG 8 ?_
    refine zDG 9 ?_
    refine zDG 10 ?_
    refine zDG 11 ?_
    refine zDG 12 ?_
    refine a4f 13 rfl (by kernel_rfl) (a1l rfl rfl rfl rfl rfl) rfl rfl Tryz.call91 a8R (fun hg => (a0f (a0x rfl hg) (a0l (a0c a0b (a0c a0b (a0c a0b a0m)))) (a0f (a0x rfl hg) (a0l (a0c a0b (a0c a0b (a0c a0b a0m)))) a0n))) rfl rfl ?_
    refine zDG 14 ?_
    refine zD 15 ?_
    refine a1R (by kernel_rfl) ?_
    refine z ?_
    refine yQ rfl (fun c4 => ?_) fun c4 => ?_
    ·have hst := b7H hp c4
     have hst1 := hst.1
     iterate 3 refine z ?_
     refine a0j ?_
     iterate 3 refine z ?_
     refine a1j ?_
     iterate 2 refine z ?_
     refine ⟨j + 1, ?_, ?_, a0e ⟨rfl, rfl, rfl, rfl, rfl, rfl, rfl, trivial⟩ ⟨rfl, rfl, rfl, rfl, rfl, trivial⟩ ⟨rfl, trivial⟩ rfl⟩
     ·exact ⟨by omega, hst.2⟩
     ·omega
    ·have hpos := b7B hj hp c4
     iterate 6 refine z ?_
     refine a5b (k := 65) hT rfl rfl rfl rfl rfl rfl rfl rfl ?_
     iterate 3 refine z ?_
     refine b8K (b8 := 8) (i8 := 1) (k := 65) (j := 9001) (s := 67) (n := (x.2.1.take j).length) (cs := (x.2.1.take j).flatMap a0E) (c2s := List.replicate (j * 4) .hole ++ (x.2.1.drop j).flatMap a0E) hT rfl rfl rfl (b3r hT rfl rfl rfl (a0a rfl) rfl (a0a rfl) (by omega) (by dsimp only [a0d]; omega)) rfl rfl rfl rfl rfl rfl rfl (a0a rfl) rfl rfl rfl rfl rfl rfl (by decide) rfl rfl ⟨rfl, rfl⟩ (by omega) (by dsimp only [a0d]; omega) (by dsimp only [a0d]; omega) (by dsimp only [a0d]; omega) (by rw [c5t, Nat.min_eq_left (by omega)]; simp) (b7e) (b6D) rfl rfl rfl ?_
     simp only [a0i, a0h, SV.kill, CV.kill, kk, Nat.reduceBEq]
     iterate 2 refine z ?_
     refine a0p ?_
     refine a4G [0, 1, 2, 3, 4, 5] (oB := [3, 4, 5, 6, 8]) (oK := [65, 9001]) (by kernel_rfl) rfl rfl ?_
     refine zD 0 ?_
     refine zD 1 ?_
     refine zD 2 ?_
     refine a3L 9000 3 rfl (by kernel_rfl) rfl rfl rfl Tryz.call88 (a7m (by omega)) (a0f (a0a rfl) (a0l (a0c a0b a0m)) a0n) rfl rfl rfl rfl rfl ?_
     refine a1X 4 rfl (by kernel_rfl) rfl rfl (a2s hT hB rfl rfl rfl (a1x (a0a rfl) rfl rfl rfl rfl rfl (a1x (a0a rfl) rfl rfl rfl rfl rfl a2o))) rfl rfl rfl rfl ?_
     refine a6m (k := 76) (js := [9003]) 5 hT rfl (by kernel_rfl) rfl rfl rfl rfl rfl rfl rfl rfl rfl (a0a rfl) rfl rfl (a0o (a0C rfl) (a0o (a0C rfl) (a0o (a0C rfl) (a0o (a1Y rfl) a1e rfl) rfl) rfl) rfl) (by decide) (by decide) rfl rfl (by decide) ?_
     simp only [a0i, a0h, SV.kill, CV.kill, kk, Nat.reduceBEq]
     refine a3c [6, 7] rfl rfl (by kernel_rfl) ?_
     refine a4r (k := 65) (j := 76) (cs := (x.2.1.take j ++ [(k, r)]).flatMap a0E) (n := (x.2.1.take j ++ [(k, r)]).length) hT rfl rfl rfl rfl rfl rfl rfl (a0a rfl) rfl rfl rfl (a0a rfl) rfl rfl (by decide) (by dsimp only [a0d]; simp only [c5t]; omega) (by dsimp only [a0d]; simp only [c5t]; omega) (by simp) (by rw [List.flatMap_append]; rfl) ?_
     simp only [a0i, a0h, SV.kill, CV.kill, kk, Nat.reduceBEq]
     iterate 7 refine z ?_
     refine b2o (k := 65) (j := 9001) (s := 80) (n := (a2l x.2.1 j (k, r)).length) (cs := (a2l x.2.1 j (k, r)).flatMap a0E) (c2s := _) hT rfl rfl rfl (b1T hT rfl rfl rfl (a0a rfl) rfl (a0a rfl) (by omega) (by dsimp only [a0d]; omega)) rfl rfl rfl rfl rfl rfl rfl (a0a rfl) rfl rfl rfl rfl rfl rfl (by decide) rfl rfl ⟨rfl, rfl⟩ (by dsimp only [a0d]; omega) (by dsimp only [a0d]; omega) (by dsimp only [a0d]; simp only [c5s, c5t, List.length_singleton]; omega) (by dsimp only [a0d]; simp only [c5s, c5t, List.length_singleton]; omega) (by rw [a8o]; simp; omega) (b6R hj) (rfl) ?_
     simp only [a0i, a0h, SV.kill, CV.kill, kk, Nat.reduceBEq]
     iterate 14 refine z ?_
     refine a1t (a1l rfl rfl rfl rfl rfl) rfl rfl Tryz.call58 a3Y (fun hg => (a0f (a0x rfl hg) (a0H a0b) (a0f (a0x rfl hg) (a0H a0b) (a0f (a0y (a0w rfl)) (a0H a0b) a0n)))) rfl rfl ?_
     iterate 2 refine z ?_
     refine yQ rfl (fun c5 => ?_) fun c5 => ?_
     ·refine a0j ?_
      iterate 5 refine z ?_
      refine a0p ?_
      refine a0r (a2D (b := 8) (i := 1) (k := 65) (k' := 9001) rfl rfl rfl rfl (by decide) rfl rfl) ?_
      simp only [a0i, a0h, SV.kill, CV.kill, kk, Nat.reduceBEq]
      refine a0j ?_
      iterate 4 refine z ?_
      rw [b8r c1 d2 d3 hpos (c1C c5)]
      refine a0r (σ' := ⟨[(6, .box 6 0), (7, .one (.dv [] (.bool (true))))], [(6, 89, [(.dv [] (.str ((x).1))), (.key 9001), (.dv [] (.int .i64 (k.2.1)))])], [(9001, some (a0d false (a0t (a2l x.2.1 j (k, r)))))]⟩) (a0e ⟨rfl, rfl, trivial⟩ ⟨rfl, trivial⟩ ⟨rfl, trivial⟩ rfl) ?_
      refine z ?_
      refine a1W (a0K hT rfl rfl rfl rfl) (a0B rfl) rfl rfl ?_
      first | exact ⟨rfl, rfl⟩ | skip
     ·iterate 2 refine z ?_
      refine a0p ?_
      refine a0r (a2D (b := 8) (i := 1) (k := 65) (k' := 9001) rfl rfl rfl rfl (by decide) rfl rfl) ?_
      simp only [a0i, a0h, SV.kill, CV.kill, kk, Nat.reduceBEq]
      refine a0j ?_
      iterate 4 refine z ?_
      rw [b8r c1 d2 d3 hpos (b9Z c5)]
      refine a0r (σ' := ⟨[(6, .box 6 0), (7, .one (.dv [] (.bool (true))))], [(6, 89, [(.dv [] (.str ((x).1))), (.key 9001), (.dv [] (.int .i64 ((x).2.2)))])], [(9001, some (a0d false (a0t (a2l x.2.1 j (k, r)))))]⟩) (a0e ⟨rfl, rfl, trivial⟩ ⟨rfl, trivial⟩ ⟨rfl, trivial⟩ rfl) ?_
      refine z ?_
      refine a1W (a0K hT rfl rfl rfl rfl) (a0B rfl) rfl rfl ?_
      first | exact ⟨rfl, rfl⟩ | skip
def a2H (x : a0I) (k : a1g) (r : a0J) : a0I × Bool := if 0 ≤ a0X x k then (x, false) else a1f x k r
theorem b4Y {x : a0I} {k : a1g} {r : a0J} (h : 0 ≤ a0X x k) : a2H x k r = (x, false) := if_pos h
theorem b8t {x : a0I} {k : a1g} {r : a0J} (h : ¬ 0 ≤ a0X x k) : a2H x k r = a1f x k r := if_neg h
theorem c3a {x : a0I} {k : a1g} {r : a0J} (hb : a0v x ≤ 1048576) (hb2 : r.length ≤ 1048576) : KFn Tryz.prog 140 [.agg [(.dv [] (.str (x.1))), (.dv [] (a0t (x.2.1))), (.dv [] (.int .i64 (x.2.2)))], .agg [(.dv [] (.int .i64 (k.1))), (.dv [] (.int .i64 (k.2.1))), (.dv [] (.str (k.2.2)))], .agg [(.dv [] (a0z (r)))]] (.tup [(true, [(.dv [] (.str ((a2H x k r).1.1))), (.key 9001), (.dv [] (.int .i64 ((a2H x k r).1.2.2)))]), (false, [(.dv [] (.bool ((a2H x k r).2)))])]) [(9001, some (a0d false (a0t ((a2H x k r).1.2.1))))] := by
 refine ⟨a0u Tryz.func140 rfl Tryz.ntmps140 Tryz.results140 rfl (fun C => ?_)⟩
 refine yF 0 0 rfl rfl fun f0_0 => ?_
 refine yF 0 1 rfl rfl fun f0_1 => ?_
 refine yF 0 2 rfl rfl fun f0_2 => ?_
 refine yF 1 0 rfl rfl fun f1_0 => ?_
 refine yF 1 1 rfl rfl fun f1_1 => ?_
 refine yF 1 2 rfl rfl fun f1_2 => ?_
 refine yF 2 0 rfl rfl fun f2_0 => ?_
 iterate 11 refine z ?_
 refine zC Tryz.call138 ?_ (hf := b1c)
 iterate 2 refine z ?_
 refine yQ rfl (fun c1 => ?_) fun c1 => ?_
 ·have d1 := c5p c1
  iterate 2 refine z ?_
  refine zK 8971 Tryz.call66 ?_ (hf := a5c (x := x) (by omega))
  iterate 3 refine z ?_
  rw [b4Y d1]
  refine a0r (σ' := ⟨[(6, .box 6 0), (7, .one (.dv [] (.bool (false))))], [(6, 89, [(.dv [] (.str ((x).1))), (.key 9001), (.dv [] (.int .i64 ((x).2.2)))])], [(9001, some (a0d false (a0t (x.2.1))))]⟩) (a0e ⟨rfl, rfl, trivial⟩ ⟨rfl, trivial⟩ ⟨rfl, trivial⟩ rfl) ?_
  iterate 2 refine z ?_
  refine a1W (a0K hT rfl rfl rfl rfl) (a0B rfl) rfl rfl ?_
  first | exact ⟨rfl, rfl⟩ | skip
 ·have d1 := c5q c1
  iterate 6 refine z ?_
  refine zK 0 Tryz.call139 ?_ (hf := a9T (x := x) (k := k) (r := r) (by omega) (by omega))
  iterate 5 refine z ?_
  rw [b8t d1]
  refine a0r (σ' := ⟨[(6, .box 6 0), (7, .one (.dv [] (.bool ((a1f (x) (k) (r)).2))))], [(6, 89, [(.dv [] (.str ((a1f (x) (k) (r)).1.1))), (.key 9001), (.dv [] (.int .i64 ((a1f (x) (k) (r)).1.2.2)))])], [(9001, some (a0d false (a0t ((a1f x k r).1.2.1))))]⟩) (a0e ⟨rfl, rfl, trivial⟩ ⟨rfl, trivial⟩ ⟨rfl, trivial⟩ rfl) ?_
  refine z ?_
  refine a1W (a0K hT rfl rfl rfl rfl) (a0B rfl) rfl rfl ?_
  first | exact ⟨rfl, rfl⟩ | skip
theorem c0y {x : a0I} {k : a1g} {r : a0J} (hb : a0v x ≤ 1048576) (hb2 : r.length ≤ 1048576) : KFn Tryz.prog 125 [.agg [(.dv [] (.str (x.1))), (.dv [] (a0t (x.2.1))), (.dv [] (.int .i64 (x.2.2)))], .agg [(.dv [] (.int .i64 (k.1))), (.dv [] (.int .i64 (k.2.1))), (.dv [] (.str (k.2.2)))], .agg [(.dv [] (a0z (r)))]] (.tup [(true, [(.dv [] (.str ((a2H x k r).1.1))), (.key 9001), (.dv [] (.int .i64 ((a2H x k r).1.2.2)))]), (false, [(.dv [] (.bool ((a2H x k r).2)))])]) [(9001, some (a0d false (a0t ((a2H x k r).1.2.1))))] := by
 refine ⟨a0u Tryz.func125 rfl Tryz.ntmps125 Tryz.results125 rfl (fun C => ?_)⟩
 refine yF 0 0 rfl rfl fun f0_0 => ?_
 refine yF 0 1 rfl rfl fun f0_1 => ?_
 refine yF 0 2 rfl rfl fun f0_2 => ?_
 refine yF 1 0 rfl rfl fun f1_0 => ?_
 refine yF 1 1 rfl rfl fun f1_1 => ?_
 refine yF 1 2 rfl rfl fun f1_2 => ?_
 refine yF 2 0 rfl rfl fun f2_0 => ?_
 iterate 11 refine z ?_
 refine zC Tryz.call127 ?_ (hf := b0R)
 iterate 2 refine z ?_
 refine yQ rfl (fun c1 => ?_) fun c1 => ?_
 ·have d1 := c5p c1
  iterate 2 refine z ?_
  refine zK 8971 Tryz.call51 ?_ (hf := a5e (x := x) (by omega))
  iterate 3 refine z ?_
  rw [b4Y d1]
  refine a0r (σ' := ⟨[(6, .box 6 0), (7, .one (.dv [] (.bool (false))))], [(6, 89, [(.dv [] (.str ((x).1))), (.key 9001), (.dv [] (.int .i64 ((x).2.2)))])], [(9001, some (a0d false (a0t (x.2.1))))]⟩) (a0e ⟨rfl, rfl, trivial⟩ ⟨rfl, trivial⟩ ⟨rfl, trivial⟩ rfl) ?_
  iterate 2 refine z ?_
  refine a1W (a0K hT rfl rfl rfl rfl) (a0B rfl) rfl rfl ?_
  first | exact ⟨rfl, rfl⟩ | skip
 ·have d1 := c5q c1
  iterate 6 refine z ?_
  refine zK 0 Tryz.call124 ?_ (hf := a9M (x := x) (k := k) (r := r) (by omega) (by omega))
  iterate 5 refine z ?_
  rw [b8t d1]
  refine a0r (σ' := ⟨[(6, .box 6 0), (7, .one (.dv [] (.bool ((a1f (x) (k) (r)).2))))], [(6, 89, [(.dv [] (.str ((a1f (x) (k) (r)).1.1))), (.key 9001), (.dv [] (.int .i64 ((a1f (x) (k) (r)).1.2.2)))])], [(9001, some (a0d false (a0t ((a1f x k r).1.2.1))))]⟩) (a0e ⟨rfl, rfl, trivial⟩ ⟨rfl, trivial⟩ ⟨rfl, trivial⟩ rfl) ?_
  refine z ?_
  refine a1W (a0K hT rfl rfl rfl rfl) (a0B rfl) rfl rfl ?_
  first | exact ⟨rfl, rfl⟩ | skip
theorem b7i {k : a1g} (h : a1H k = true) : (1 ≤ k.1 ∧ k.1 ≤ 3) ∧ (-1000000000000 ≤ k.2.1 ∧ k.2.1 ≤ 1000000000000) ∧ k.2.2.size ≤ 12 := by
 simp only [a1H, a6z, Bool.and_eq_true, decide_eq_true_eq] at h
 omega
theorem a8C {s : Str} (h : a3l s = true) : 1 ≤ s.size ∧ s.size ≤ 8 := by
 simp only [a3l, Bool.and_eq_true, decide_eq_true_eq] at h; omega
theorem b5S {r : a0J} {k : Nat} (h : a1C r = true) (hk : k < r.length) : a3l (r.getD (k : Int).toNat default).1 = true ∧ 0 ≤ (r.getD (k : Int).toNat default).2 ∧ (r.getD (k : Int).toNat default).2 ≤ 1000000000 := by
 simp only [a1C, Bool.and_eq_true, List.all_eq_true] at h
 have h1 := h.1 k (List.mem_range.2 hk)
 unfold a4P at h1
 simp only [Bool.not_or, Bool.not_not, Bool.and_eq_true, decide_eq_true_eq] at h1
 exact ⟨h1.1.1, h1.1.2.1, h1.1.2.2⟩
theorem b7n {r : a0J} (h : a1C r = true) : r.length ≤ 6 := by
 simp only [a1C, Bool.and_eq_true, decide_eq_true_eq] at h; omega
def a2N (x : OpT) (k : Int) : OpT := (k, a2r ((k) + (1)), (((k) + (1)) + (1), (((k) + (1)) + (1)) + (1), a2r (((((k) + (1)) + (1)) + (1)) + (1))), mkL a3U a1P (x.2.2.2.1) ((((((k) + (1)) + (1)) + (1)) + (1)) + (1)), a2r (((((((k) + (1)) + (1)) + (1)) + (1)) + (1)) + (wSum a1P (x.2.2.2.1) : Int)))
def cOp (x : OpT) : Nat := 6 + wSum a1P (x.2.2.2.1)
theorem c1k (x : OpT) : cOp x ≤ 8 * (1 + wOp x) := by
 have h5 := a4X b8a (x.2.2.2.1)
 simp only [cOp, wOp, a2x, a2e]
 omega
theorem c1h {x : List (OpT)} {k : Int} (h0 : 0 ≤ k) (h1 : k + (wSum cOp x : Int) ≤ 4611686018427387904) : WFn Tryz.prog 82 [.one (.key 0), .one (.dv [] (.int .i64 (k)))] (.one (.dv [] (.int .i64 (k + (wSum cOp x : Int))))) [(0, a0d true (.sl 111 7 (x.length) (x.flatMap eOp)))] [(0, a0d true (a0F (mkL a2N cOp x k)))] := by
 refine ⟨a0u Tryz.func82 rfl Tryz.ntmps82 Tryz.results82 rfl (fun C => ?_)⟩
 have hln : x.length ≤ wSum cOp x := a6M (fun _ => by simp only [cOp]; omega) x
 refine a0G (x := .tmp 1) (a0a rfl) fun f1 => ?_
 iterate 8 refine z ?_
 refine a0W (ι := Nat) (fun zz => ⟨[(0, .one (.key 0)), (1, .one (.dv [] (.int .i64 (k + (wSum cOp (x.take zz) : Int))))), (4, .one (.dv [] (.int .i64 (0)))), (5, .one (.dv [] (.int .i64 ((zz : Int)))))], [], [(0, some ⟨true, 111, 7, x.length, (mkL a2N cOp (x.take zz) k).flatMap eOp ++ (x.drop zz).flatMap eOp⟩)]⟩) (fun zz => zz ≤ x.length) (fun zz => x.length - zz) (0) ?_ (a0e ⟨rfl, (a2E (by simp [wSum])), rfl, rfl, trivial⟩ trivial ⟨rfl, trivial⟩ rfl) (fun zz hx => ?_)
 ·exact Nat.zero_le _
 obtain ⟨j, rfl⟩ : ∃ v, v = zz := ⟨_, rfl⟩
 replace hx : j ≤ x.length := hx
 have hw := fun h => a1T cOp x j h
 show Ok _ _ _ _ _ (⟨[(0, .one (.key 0)), (1, .one (.dv [] (.int .i64 (k + (wSum cOp (x.take j) : Int))))), (4, .one (.dv [] (.int .i64 (0)))), (5, .one (.dv [] (.int .i64 ((j : Int)))))], [], [(0, some ⟨true, 111, 7, x.length, (mkL a2N cOp (x.take j) k).flatMap eOp ++ (x.drop j).flatMap eOp⟩)]⟩ : St)
 iterate 4 refine z ?_
 refine yO rfl rfl (a3S (n := (x.length)) hT rfl rfl (a0a rfl) rfl rfl) rfl ?_
 iterate 2 refine z ?_
 refine yQ rfl (fun c1 => ?_) fun c1 => ?_
 ·have d1 := c5p c1
  have hj : j < x.length := by omega
  obtain ⟨hw1, hw2⟩ := hw hj
  have hc : cOp (x.getD (j : Int).toNat default) = 6 + wSum a1P ((x.getD (j : Int).toNat default).2.2.2.1) := rfl
  refine a5g (k := 0) (cs' := mid ((mkL a2N cOp (x.take j) k).flatMap eOp) [.int .i64 ((x.getD (j : Int).toNat default).1), .str ((x.getD (j : Int).toNat default).2.1), .int .i64 ((x.getD (j : Int).toNat default).2.2.1.1), .int .i64 ((x.getD (j : Int).toNat default).2.2.1.2.1), .str ((x.getD (j : Int).toNat default).2.2.1.2.2), a0z ((x.getD (j : Int).toNat default).2.2.2.1), .str ((x.getD (j : Int).toNat default).2.2.2.2)] ((x.drop (j + 1)).flatMap eOp)) rfl (a7L hj) ?_
  iterate 8 refine z ?_
  refine yO rfl rfl (a1q (i := j) hT rfl rfl rfl (a0a rfl) rfl (a0a rfl) rfl (by show _ < (x.length); omega)) rfl ?_
  refine z ?_
  refine a1u (js := []) (cs := mid ((mkL a2N cOp (x.take j) k).flatMap eOp) [.int .i64 (k + (wSum cOp (x.take j) : Int)), .str ((x.getD (j : Int).toNat default).2.1), .int .i64 ((x.getD (j : Int).toNat default).2.2.1.1), .int .i64 ((x.getD (j : Int).toNat default).2.2.1.2.1), .str ((x.getD (j : Int).toNat default).2.2.1.2.2), a0z ((x.getD (j : Int).toNat default).2.2.2.1), .str ((x.getD (j : Int).toNat default).2.2.2.2)] ((x.drop (j + 1)).flatMap eOp)) hT rfl rfl rfl rfl (a0a rfl) (a0a rfl) rfl rfl rfl rfl (a0o (a0C rfl) a1e rfl) (by decide) (by decide) rfl (a2a (off := (j * 7 + 0)) (n := 1) (j := 0) (a1s (sz := 7) (fun _ => rfl) (Nat.le_of_lt hj)) (by omega) (Nat.le_of_ble_eq_true rfl)) (a1S (off := (j * 7 + 0)) (j := 0) (a1s (sz := 7) (fun _ => rfl) (Nat.le_of_lt hj)) (by omega) rfl (Nat.le_of_ble_eq_true rfl)) ?_
  simp only [a0i, a0h, SV.kill, CV.kill, kk, Nat.reduceBEq]
  iterate 10 refine z ?_
  refine zC Tryz.call80 ?_ (hf := a3Z (by omega))
  refine yO rfl rfl (a1q (i := j) hT rfl rfl rfl (a0a rfl) rfl (a0a rfl) rfl (by show _ < (x.length); omega)) rfl ?_
  refine z ?_
  refine a1u (js := []) (cs := mid ((mkL a2N cOp (x.take j) k).flatMap eOp) [.int .i64 (k + (wSum cOp (x.take j) : Int)), .str (a2r ((k + (wSum cOp (x.take j) : Int)) + (1))), .int .i64 ((x.getD (j : Int).toNat default).2.2.1.1), .int .i64 ((x.getD (j : Int).toNat default).2.2.1.2.1), .str ((x.getD (j : Int).toNat default).2.2.1.2.2), a0z ((x.getD (j : Int).toNat default).2.2.2.1), .str ((x.getD (j : Int).toNat default).2.2.2.2)] ((x.drop (j + 1)).flatMap eOp)) hT rfl rfl rfl rfl (a0a rfl) (a0a rfl) rfl rfl rfl rfl (a0o (a0C rfl) a1e rfl) (by decide) (by decide) rfl (a2a (off := (j * 7 + 1)) (n := 1) (j := 1) (a1s (sz := 7) (fun _ => rfl) (Nat.le_of_lt hj)) (by omega) (Nat.le_of_ble_eq_true rfl)) (a1S (off := (j * 7 + 1)) (j := 1) (a1s (sz := 7) (fun _ => rfl) (Nat.le_of_lt hj)) (by omega) rfl (Nat.le_of_ble_eq_true rfl)) ?_
  simp only [a0i, a0h, SV.kill, CV.kill, kk, Nat.reduceBEq]
  iterate 10 refine z ?_
  refine yO rfl rfl (a1q (i := j) hT rfl rfl rfl (a0a rfl) rfl (a0a rfl) rfl (by show _ < (x.length); omega)) rfl ?_
  iterate 2 refine z ?_
  refine a1u (js := []) (cs := mid ((mkL a2N cOp (x.take j) k).flatMap eOp) [.int .i64 (k + (wSum cOp (x.take j) : Int)), .str (a2r ((k + (wSum cOp (x.take j) : Int)) + (1))), .int .i64 (((k + (wSum cOp (x.take j) : Int)) + (1)) + (1)), .int .i64 ((x.getD (j : Int).toNat default).2.2.1.2.1), .str ((x.getD (j : Int).toNat default).2.2.1.2.2), a0z ((x.getD (j : Int).toNat default).2.2.2.1), .str ((x.getD (j : Int).toNat default).2.2.2.2)] ((x.drop (j + 1)).flatMap eOp)) hT rfl rfl rfl rfl (a0a rfl) (a0a rfl) rfl rfl rfl rfl (a0o (a0C rfl) a1e rfl) (by decide) (by decide) rfl (a2a (off := ((j * 7 + 2) + 0)) (n := 1) (j := 2) (a1s (sz := 7) (fun _ => rfl) (Nat.le_of_lt hj)) (by omega) (Nat.le_of_ble_eq_true rfl)) (a1S (off := ((j * 7 + 2) + 0)) (j := 2) (a1s (sz := 7) (fun _ => rfl) (Nat.le_of_lt hj)) (by omega) rfl (Nat.le_of_ble_eq_true rfl)) ?_
  simp only [a0i, a0h, SV.kill, CV.kill, kk, Nat.reduceBEq]
  iterate 10 refine z ?_
  refine yO rfl rfl (a1q (i := j) hT rfl rfl rfl (a0a rfl) rfl (a0a rfl) rfl (by show _ < (x.length); omega)) rfl ?_
  iterate 2 refine z ?_
  refine a1u (js := []) (cs := mid ((mkL a2N cOp (x.take j) k).flatMap eOp) [.int .i64 (k + (wSum cOp (x.take j) : Int)), .str (a2r ((k + (wSum cOp (x.take j) : Int)) + (1))), .int .i64 (((k + (wSum cOp (x.take j) : Int)) + (1)) + (1)), .int .i64 ((((k + (wSum cOp (x.take j) : Int)) + (1)) + (1)) + (1)), .str ((x.getD (j : Int).toNat default).2.2.1.2.2), a0z ((x.getD (j : Int).toNat default).2.2.2.1), .str ((x.getD (j : Int).toNat default).2.2.2.2)] ((x.drop (j + 1)).flatMap eOp)) hT rfl rfl rfl rfl (a0a rfl) (a0a rfl) rfl rfl rfl rfl (a0o (a0C rfl) a1e rfl) (by decide) (by decide) rfl (a2a (off := ((j * 7 + 2) + 1)) (n := 1) (j := 3) (a1s (sz := 7) (fun _ => rfl) (Nat.le_of_lt hj)) (by omega) (Nat.le_of_ble_eq_true rfl)) (a1S (off := ((j * 7 + 2) + 1)) (j := 3) (a1s (sz := 7) (fun _ => rfl) (Nat.le_of_lt hj)) (by omega) rfl (Nat.le_of_ble_eq_true rfl)) ?_
  simp only [a0i, a0h, SV.kill, CV.kill, kk, Nat.reduceBEq]
  iterate 10 refine z ?_
  refine zC Tryz.call80 ?_ (hf := a3Z (by omega))
  refine yO rfl rfl (a1q (i := j) hT rfl rfl rfl (a0a rfl) rfl (a0a rfl) rfl (by show _ < (x.length); omega)) rfl ?_
  iterate 2 refine z ?_
  refine a1u (js := []) (cs := mid ((mkL a2N cOp (x.take j) k).flatMap eOp) [.int .i64 (k + (wSum cOp (x.take j) : Int)), .str (a2r ((k + (wSum cOp (x.take j) : Int)) + (1))), .int .i64 (((k + (wSum cOp (x.take j) : Int)) + (1)) + (1)), .int .i64 ((((k + (wSum cOp (x.take j) : Int)) + (1)) + (1)) + (1)), .str (a2r (((((k + (wSum cOp (x.take j) : Int)) + (1)) + (1)) + (1)) + (1))), a0z ((x.getD (j : Int).toNat default).2.2.2.1), .str ((x.getD (j : Int).toNat default).2.2.2.2)] ((x.drop (j + 1)).flatMap eOp)) hT rfl rfl rfl rfl (a0a rfl) (a0a rfl) rfl rfl rfl rfl (a0o (a0C rfl) a1e rfl) (by decide) (by decide) rfl (a2a (off := ((j * 7 + 2) + 2)) (n := 1) (j := 4) (a1s (sz := 7) (fun _ => rfl) (Nat.le_of_lt hj)) (by omega) (Nat.le_of_ble_eq_true rfl)) (a1S (off := ((j * 7 + 2) + 2)) (j := 4) (a1s (sz := 7) (fun _ => rfl) (Nat.le_of_lt hj)) (by omega) rfl (Nat.le_of_ble_eq_true rfl)) ?_
  simp only [a0i, a0h, SV.kill, CV.kill, kk, Nat.reduceBEq]
  iterate 9 refine z ?_
  refine yO rfl rfl (a1q (i := j) hT rfl rfl rfl (a0a rfl) rfl (a0a rfl) rfl (by show _ < (x.length); omega)) rfl ?_
  iterate 2 refine z ?_
  refine yO rfl rfl (a3a hT rfl rfl (a0a rfl) rfl (a2m (off := ((j * 7 + 5) + 0)) (j := 5) (a1s (sz := 7) (fun _ => rfl) (Nat.le_of_lt hj)) (by omega) rfl)) rfl ?_
  refine z ?_
  refine a9a (t := 57) (ccs := mid ((mkL a2N cOp (x.take j) k).flatMap eOp) [.int .i64 (k + (wSum cOp (x.take j) : Int)), .str (a2r ((k + (wSum cOp (x.take j) : Int)) + (1))), .int .i64 (((k + (wSum cOp (x.take j) : Int)) + (1)) + (1)), .int .i64 ((((k + (wSum cOp (x.take j) : Int)) + (1)) + (1)) + (1)), .str (a2r (((((k + (wSum cOp (x.take j) : Int)) + (1)) + (1)) + (1)) + (1))), a0z (mkL a3U a1P ((x.getD (j : Int).toNat default).2.2.2.1) ((((((k + (wSum cOp (x.take j) : Int)) + (1)) + (1)) + (1)) + (1)) + (1))), .str ((x.getD (j : Int).toNat default).2.2.2.2)] ((x.drop (j + 1)).flatMap eOp)) 5059 rfl rfl rfl Tryz.call117 (b7Z (by omega) (by omega)) rfl rfl (a2m (off := ((j * 7 + 5) + 0)) (j := 5) (a1s (sz := 7) (fun _ => rfl) (Nat.le_of_lt hj)) (by omega) rfl) rfl (a2J (a0a rfl) (a3b (a4h rfl)) (a2J (a0a rfl) (a3b (a3I rfl)) a4C)) rfl rfl (a5l (off := ((j * 7 + 5) + 0)) (j := 5) (a1s (sz := 7) (fun _ => rfl) (Nat.le_of_lt hj)) (by omega) rfl (Nat.lt_of_lt_of_le (Nat.lt_succ_self _) (Nat.le_of_ble_eq_true rfl))) ?_
  simp only [a0i, a0h, SV.kill, CV.kill, kk, Nat.reduceBEq]
  iterate 6 refine z ?_
  refine zC Tryz.call80 ?_ (hf := a3Z (by omega))
  refine yO rfl rfl (a1q (i := j) hT rfl rfl rfl (a0a rfl) rfl (a0a rfl) rfl (by show _ < (x.length); omega)) rfl ?_
  refine z ?_
  refine a1u (js := []) (cs := mid ((mkL a2N cOp (x.take j) k).flatMap eOp) [.int .i64 (k + (wSum cOp (x.take j) : Int)), .str (a2r ((k + (wSum cOp (x.take j) : Int)) + (1))), .int .i64 (((k + (wSum cOp (x.take j) : Int)) + (1)) + (1)), .int .i64 ((((k + (wSum cOp (x.take j) : Int)) + (1)) + (1)) + (1)), .str (a2r (((((k + (wSum cOp (x.take j) : Int)) + (1)) + (1)) + (1)) + (1))), a0z (mkL a3U a1P ((x.getD (j : Int).toNat default).2.2.2.1) ((((((k + (wSum cOp (x.take j) : Int)) + (1)) + (1)) + (1)) + (1)) + (1))), .str (a2r (((((((k + (wSum cOp (x.take j) : Int)) + (1)) + (1)) + (1)) + (1)) + (1)) + (wSum a1P ((x.getD (j : Int).toNat default).2.2.2.1) : Int)))] ((x.drop (j + 1)).flatMap eOp)) hT rfl rfl rfl rfl (a0a rfl) (a0a rfl) rfl rfl rfl rfl (a0o (a0C rfl) a1e rfl) (by decide) (by decide) rfl (a2a (off := (j * 7 + 6)) (n := 1) (j := 6) (a1s (sz := 7) (fun _ => rfl) (Nat.le_of_lt hj)) (by omega) (Nat.le_of_ble_eq_true rfl)) (a1S (off := (j * 7 + 6)) (j := 6) (a1s (sz := 7) (fun _ => rfl) (Nat.le_of_lt hj)) (by omega) rfl (Nat.le_of_ble_eq_true rfl)) ?_
  simp only [a0i, a0h, SV.kill, CV.kill, kk, Nat.reduceBEq]
  refine z ?_
  refine a0j ?_
  iterate 3 refine z ?_
  refine a1j ?_
  iterate 2 refine z ?_
  refine a0j ?_
  iterate 4 refine z ?_
  refine ⟨j + 1, ?_, ?_, a0e ⟨rfl, (a2E (by omega)), rfl, rfl, trivial⟩ trivial ⟨(congrArg (fun cs => some (some (KC.mk true 111 7 x.length cs))) (a7B (by omega) (by rfl))), trivial⟩ rfl⟩
  ·omega
  ·omega
 ·have d1 := c5q c1
  iterate 9 refine z ?_
  refine a0r (σ' := ⟨[(4, .one (.dv [] (.int .i64 (k + (wSum cOp (x.take j) : Int)))))], [], [(0, some (a0d true (a0F (mkL a2N cOp x k))))]⟩) (a0e ⟨rfl, trivial⟩ trivial ⟨(a7h (by omega)), trivial⟩ rfl) ?_
  refine z ?_
  refine a1B (a0B rfl) ⟨eqI ?_, a6P rfl⟩
  have hq := a3r cOp x j (by omega); omega
theorem c2q {x y : List (OpT)} {k : Int} (hy : y = mkL a2N cOp x k) (h0 : 0 ≤ k) (h1 : k + (wSum cOp x : Int) ≤ 4611686018427387904) : PFn Tryz.prog 84 [.one (.dv [] (a0F (y))), .one (.dv [] (.int .i64 (k)))] (.one (.dv [] (.int .i64 (k + (wSum cOp x : Int))))) := by
 refine ⟨a0u Tryz.func84 rfl Tryz.ntmps84 Tryz.results84 rfl (fun C => ?_)⟩
 refine a0G (x := .tmp 0) (a0a rfl) fun f0 => ?_
 refine a0G (x := .tmp 1) (a0a rfl) fun f1 => ?_
 iterate 8 refine z ?_
 refine a0W (ι := Nat) (fun zz => ⟨[(0, .one (.dv [] (a0F (y)))), (1, .one (.dv [] (.int .i64 (k + (wSum cOp (x.take zz) : Int))))), (5, .one (.dv [] (.int .i64 ((zz : Int)))))], [], []⟩) (fun zz => zz ≤ x.length) (fun zz => x.length - zz) (0) ?_ (a0e ⟨rfl, (a2E (by simp [wSum])), rfl, trivial⟩ trivial trivial rfl) (fun zz hx => ?_)
 ·exact Nat.zero_le _
 obtain ⟨j, rfl⟩ : ∃ v, v = zz := ⟨_, rfl⟩
 replace hx : j ≤ x.length := hx
 have hw := fun h => a1T cOp x j h
 have hyl : y.length = x.length := by rw [hy, a5y]
 show Ok _ _ _ _ _ (⟨[(0, .one (.dv [] (a0F (y)))), (1, .one (.dv [] (.int .i64 (k + (wSum cOp (x.take j) : Int))))), (5, .one (.dv [] (.int .i64 ((j : Int)))))], [], []⟩ : St)
 iterate 7 refine z ?_
 refine yQ rfl (fun c1 => ?_) fun c1 => ?_
 ·have d1 := c5p c1
  have hj : j < x.length := by omega
  obtain ⟨hw1, hw2⟩ := hw hj
  have hc : cOp (x.getD (j : Int).toNat default) = 6 + wSum a1P ((x.getD (j : Int).toNat default).2.2.2.1) := rfl
  have he : y.getD (j : Int).toNat default = a2N (x.getD (j : Int).toNat default) (k + (wSum cOp (x.take j) : Int)) := by rw [hy]; exact a8d hj
  iterate 14 refine z ?_
  refine yQ rfl (fun c2 => ?_) fun c2 => ?_
  ·have d2 := a2g c2
   iterate 11 refine z ?_
   exfalso; rw [he] at c2; simp [a2N, sEq] at c2
  ·have d2 := a2j c2
   iterate 7 refine z ?_
   refine a0p ?_
   refine a0p ?_
   refine a1o (oB := []) (oK := []) (by kernel_rfl) rfl rfl ?_
   refine zD 0 ?_
   refine zD 1 ?_
   refine zD 2 ?_
   refine zD 3 ?_
   refine zD 4 ?_
   refine zD 5 ?_
   refine a2v 6 rfl (by kernel_rfl) rfl rfl rfl Tryz.call80 (a3Z (by omega)) (a0f (a0a rfl) (a0H a0b) a0n) rfl rfl rfl rfl ?_
   refine zD 7 ?_
   refine a1R (by kernel_rfl) ?_
   refine z ?_
   refine yQ rfl (fun c3 => ?_) fun c3 => ?_
   ·iterate 11 refine z ?_
    exfalso; rw [he] at c3; simp [a2N, sEq] at c3
   ·iterate 18 refine z ?_
    refine yQ rfl (fun c4 => ?_) fun c4 => ?_
    ·have d4 := a2g c4
     iterate 11 refine z ?_
     exfalso; rw [he] at c4; simp [a2N, sEq] at c4
    ·have d4 := a2j c4
     iterate 18 refine z ?_
     refine yQ rfl (fun c5 => ?_) fun c5 => ?_
     ·have d5 := a2g c5
      iterate 11 refine z ?_
      exfalso; rw [he] at c5; simp [a2N, sEq] at c5
     ·have d5 := a2j c5
      iterate 7 refine z ?_
      refine a0p ?_
      refine a0p ?_
      refine a1o (oB := []) (oK := []) (by kernel_rfl) rfl rfl ?_
      refine zD 0 ?_
      refine zD 1 ?_
      refine zD 2 ?_
      refine zD 3 ?_
      refine zD 4 ?_
      refine zD 5 ?_
      refine zD 6 ?_
      refine a2v 7 rfl (by kernel_rfl) rfl rfl rfl Tryz.call80 (a3Z (by omega)) (a0f (a0a rfl) (a0H a0b) a0n) rfl rfl rfl rfl ?_
      refine zD 8 ?_
      refine a1R (by kernel_rfl) ?_
      refine z ?_
      refine yQ rfl (fun c6 => ?_) fun c6 => ?_
      ·iterate 11 refine z ?_
       exfalso; rw [he] at c6; simp [a2N, sEq] at c6
      ·iterate 15 refine z ?_
       refine zC Tryz.call118 ?_ (hf := b6x (x := (x.getD (j : Int).toNat default).2.2.2.1) (by rw [he]; rfl) (by omega) (by omega))
       iterate 7 refine z ?_
       refine yQ rfl (fun c7 => ?_) fun c7 => ?_
       ·have d7 := c5p c7
        iterate 11 refine z ?_
        exfalso; omega
       ·have d7 := c5q c7
        iterate 2 refine z ?_
        refine a0p ?_
        refine a0p ?_
        refine a1o (oB := []) (oK := []) (by kernel_rfl) rfl rfl ?_
        refine zD 0 ?_
        refine zD 1 ?_
        refine zD 2 ?_
        refine zD 3 ?_
        refine zD 4 ?_
        refine zD 5 ?_
        refine a2v 6 rfl (by kernel_rfl) rfl rfl rfl Tryz.call80 (a3Z (by omega)) (a0f (a0a rfl) (a0H a0b) a0n) rfl rfl rfl rfl ?_
        refine zD 7 ?_
        refine a1R (by kernel_rfl) ?_
        refine z ?_
        refine yQ rfl (fun c8 => ?_) fun c8 => ?_
        ·iterate 11 refine z ?_
         exfalso; rw [he] at c8; simp [a2N, sEq] at c8
        ·iterate 2 refine z ?_
         refine a0j ?_
         iterate 3 refine z ?_
         refine a1j ?_
         iterate 2 refine z ?_
         refine a0j ?_
         iterate 4 refine z ?_
         refine ⟨j + 1, ?_, ?_, a0e ⟨rfl, (a2E (by omega)), rfl, trivial⟩ trivial trivial rfl⟩
         ·omega
         ·omega
 ·have d1 := c5q c1
  iterate 11 refine z ?_
  have hq := a3r cOp x j (by omega); omega
def a4v (x : a2M) (k : Int) : a2M := (a2r (k), a2r ((k) + (1)))
def a2b (x : a2M) : Nat := 2
theorem b6N (x : a2M) : a2b x ≤ 8 * (1 + a1m x) := by
 simp only [a2b]
 omega
def a3v (x : TxT) (k : Int) : TxT := (k, mkL a2N cOp (x.2.1) ((k) + (1)), ((k) + (1)) + (wSum cOp (x.2.1) : Int), (((k) + (1)) + (wSum cOp (x.2.1) : Int)) + (1), mkL a3K a1w (x.2.2.2.2) (((((k) + (1)) + (wSum cOp (x.2.1) : Int)) + (1)) + (1)))
def cTx (x : TxT) : Nat := 3 + wSum cOp (x.2.1) + wSum a1w (x.2.2.2.2)
theorem b8o (x : TxT) : cTx x ≤ 8 * (1 + wTx x) := by
 have h1 := a4X c1k (x.2.1)
 have h4 := a4X b1x (x.2.2.2.2)
 simp only [cTx, wTx]
 omega
def c3f (x : List TxT) (k : Int) : List TxT := mkL a3v cTx (x) (k)
def c4U (x : DbT) (k : Int) : DbT := (x.1, x.2.1, mkL a3K a1w (x.2.2.1) (k), mkL a4v a2b (x.2.2.2) ((k) + (wSum a1w (x.2.2.1) : Int)))
theorem c4w {x : List (a2M)} {k : Int} (h0 : 0 ≤ k) (h1 : k + (wSum a2b x : Int) ≤ 4611686018427387904) : WFn Tryz.prog 43 [.one (.key 0), .one (.dv [] (.int .i64 (k)))] (.one (.dv [] (.int .i64 (k + (wSum a2b x : Int))))) [(0, a0d true (.sl 95 2 (x.length) (x.flatMap a1y)))] [(0, a0d true (a0A (mkL a4v a2b x k)))] := by
 refine ⟨a0u Tryz.func43 rfl Tryz.ntmps43 Tryz.results43 rfl (fun C => ?_)⟩
 have hln : x.length ≤ wSum a2b x := a6M (fun _ => by simp only [a2b]; omega) x
 refine a0G (x := .tmp 1) (a0a rfl) fun f1 => ?_
 iterate 8 refine z ?_
 refine a0W (ι := Nat) (fun zz => ⟨[(0, .one (.key 0)), (1, .one (.dv [] (.int .i64 (k + (wSum a2b (x.take zz) : Int))))), (4, .one (.dv [] (.int .i64 (0)))), (5, .one (.dv [] (.int .i64 ((zz : Int)))))], [], [(0, some ⟨true, 95, 2, x.length, (mkL a4v a2b (x.take zz) k).flatMap a1y ++ (x.drop zz).flatMap a1y⟩)]⟩) (fun zz => zz ≤ x.length) (fun zz => x.length - zz) (0) ?_ (a0e ⟨rfl, (a2E (by simp [wSum])), rfl, rfl, trivial⟩ trivial ⟨rfl, trivial⟩ rfl) (fun zz hx => ?_)
 ·exact Nat.zero_le _
 obtain ⟨j, rfl⟩ : ∃ v, v = zz := ⟨_, rfl⟩
 replace hx : j ≤ x.length := hx
 have hw := fun h => a1T a2b x j h
 show Ok _ _ _ _ _ (⟨[(0, .one (.key 0)), (1, .one (.dv [] (.int .i64 (k + (wSum a2b (x.take j) : Int))))), (4, .one (.dv [] (.int .i64 (0)))), (5, .one (.dv [] (.int .i64 ((j : Int)))))], [], [(0, some ⟨true, 95, 2, x.length, (mkL a4v a2b (x.take j) k).flatMap a1y ++ (x.drop j).flatMap a1y⟩)]⟩ : St)
 iterate 4 refine z ?_
 refine yO rfl rfl (a3S (n := (x.length)) hT rfl rfl (a0a rfl) rfl rfl) rfl ?_
 iterate 2 refine z ?_
 refine yQ rfl (fun c1 => ?_) fun c1 => ?_
 ·have d1 := c5p c1
  have hj : j < x.length := by omega
  obtain ⟨hw1, hw2⟩ := hw hj
  have hc : a2b (x.getD (j : Int).toNat default) = 2 := rfl
  refine a5g (k := 0) (cs' := mid ((mkL a4v a2b (x.take j) k).flatMap a1y) [.str ((x.getD (j : Int).toNat default).1), .str ((x.getD (j : Int).toNat default).2)] ((x.drop (j + 1)).flatMap a1y)) rfl (a7L hj) ?_
  iterate 8 refine z ?_
  refine zC Tryz.call80 ?_ (hf := a3Z (by omega))
  refine yO rfl rfl (a1q (i := j) hT rfl rfl rfl (a0a rfl) rfl (a0a rfl) rfl (by show _ < (x.length); omega)) rfl ?_
  refine z ?_
  refine a1u (js := []) (cs := mid ((mkL a4v a2b (x.take j) k).flatMap a1y) [.str (a2r (k + (wSum a2b (x.take j) : Int))), .str ((x.getD (j : Int).toNat default).2)] ((x.drop (j + 1)).flatMap a1y)) hT rfl rfl rfl rfl (a0a rfl) (a0a rfl) rfl rfl rfl rfl (a0o (a0C rfl) a1e rfl) (by decide) (by decide) rfl (a2a (off := (j * 2 + 0)) (n := 1) (j := 0) (a1s (sz := 2) (fun _ => rfl) (Nat.le_of_lt hj)) (by omega) (Nat.le_of_ble_eq_true rfl)) (a1S (off := (j * 2 + 0)) (j := 0) (a1s (sz := 2) (fun _ => rfl) (Nat.le_of_lt hj)) (by omega) rfl (Nat.le_of_ble_eq_true rfl)) ?_
  simp only [a0i, a0h, SV.kill, CV.kill, kk, Nat.reduceBEq]
  iterate 10 refine z ?_
  refine zC Tryz.call80 ?_ (hf := a3Z (by omega))
  refine yO rfl rfl (a1q (i := j) hT rfl rfl rfl (a0a rfl) rfl (a0a rfl) rfl (by show _ < (x.length); omega)) rfl ?_
  refine z ?_
  refine a1u (js := []) (cs := mid ((mkL a4v a2b (x.take j) k).flatMap a1y) [.str (a2r (k + (wSum a2b (x.take j) : Int))), .str (a2r ((k + (wSum a2b (x.take j) : Int)) + (1)))] ((x.drop (j + 1)).flatMap a1y)) hT rfl rfl rfl rfl (a0a rfl) (a0a rfl) rfl rfl rfl rfl (a0o (a0C rfl) a1e rfl) (by decide) (by decide) rfl (a2a (off := (j * 2 + 1)) (n := 1) (j := 1) (a1s (sz := 2) (fun _ => rfl) (Nat.le_of_lt hj)) (by omega) (Nat.le_of_ble_eq_true rfl)) (a1S (off := (j * 2 + 1)) (j := 1) (a1s (sz := 2) (fun _ => rfl) (Nat.le_of_lt hj)) (by omega) rfl (Nat.le_of_ble_eq_true rfl)) ?_
  simp only [a0i, a0h, SV.kill, CV.kill, kk, Nat.reduceBEq]
  refine z ?_
  refine a0j ?_
  iterate 3 refine z ?_
  refine a1j ?_
  iterate 2 refine z ?_
  refine a0j ?_
  iterate 4 refine z ?_
  refine ⟨j + 1, ?_, ?_, a0e ⟨rfl, (a2E (by omega)), rfl, rfl, trivial⟩ trivial ⟨(congrArg (fun cs => some (some (KC.mk true 95 2 x.length cs))) (a7B (by omega) (by rfl))), trivial⟩ rfl⟩
  ·omega
  ·omega
 ·have d1 := c5q c1
  iterate 9 refine z ?_
  refine a0r (σ' := ⟨[(4, .one (.dv [] (.int .i64 (k + (wSum a2b (x.take j) : Int)))))], [], [(0, some (a0d true (a0A (mkL a4v a2b x k))))]⟩) (a0e ⟨rfl, trivial⟩ trivial ⟨(a7h (by omega)), trivial⟩ rfl) ?_
  refine z ?_
  refine a1B (a0B rfl) ⟨eqI ?_, a6P rfl⟩
  have hq := a3r a2b x j (by omega); omega
theorem c0x {x y : List (a2M)} {k : Int} (hy : y = mkL a4v a2b x k) (h0 : 0 ≤ k) (h1 : k + (wSum a2b x : Int) ≤ 4611686018427387904) : PFn Tryz.prog 46 [.one (.dv [] (a0A (y))), .one (.dv [] (.int .i64 (k)))] (.one (.dv [] (.int .i64 (k + (wSum a2b x : Int))))) := by
 refine ⟨a0u Tryz.func46 rfl Tryz.ntmps46 Tryz.results46 rfl (fun C => ?_)⟩
 refine a0G (x := .tmp 0) (a0a rfl) fun f0 => ?_
 refine a0G (x := .tmp 1) (a0a rfl) fun f1 => ?_
 iterate 8 refine z ?_
 refine a0W (ι := Nat) (fun zz => ⟨[(0, .one (.dv [] (a0A (y)))), (1, .one (.dv [] (.int .i64 (k + (wSum a2b (x.take zz) : Int))))), (5, .one (.dv [] (.int .i64 ((zz : Int)))))], [], []⟩) (fun zz => zz ≤ x.length) (fun zz => x.length - zz) (0) ?_ (a0e ⟨rfl, (a2E (by simp [wSum])), rfl, trivial⟩ trivial trivial rfl) (fun zz hx => ?_)
 ·exact Nat.zero_le _
 obtain ⟨j, rfl⟩ : ∃ v, v = zz := ⟨_, rfl⟩
 replace hx : j ≤ x.length := hx
 have hw := fun h => a1T a2b x j h
 have hyl : y.length = x.length := by rw [hy, a5y]
 show Ok _ _ _ _ _ (⟨[(0, .one (.dv [] (a0A (y)))), (1, .one (.dv [] (.int .i64 (k + (wSum a2b (x.take j) : Int))))), (5, .one (.dv [] (.int .i64 ((j : Int)))))], [], []⟩ : St)
 iterate 7 refine z ?_
 refine yQ rfl (fun c1 => ?_) fun c1 => ?_
 ·have d1 := c5p c1
  have hj : j < x.length := by omega
  obtain ⟨hw1, hw2⟩ := hw hj
  have hc : a2b (x.getD (j : Int).toNat default) = 2 := rfl
  have he : y.getD (j : Int).toNat default = a4v (x.getD (j : Int).toNat default) (k + (wSum a2b (x.take j) : Int)) := by rw [hy]; exact a8d hj
  iterate 4 refine z ?_
  refine a0p ?_
  refine a0p ?_
  refine a1o (oB := []) (oK := []) (by kernel_rfl) rfl rfl ?_
  refine zD 0 ?_
  refine zD 1 ?_
  refine zD 2 ?_
  refine zD 3 ?_
  refine zD 4 ?_
  refine zD 5 ?_
  refine a2v 6 rfl (by kernel_rfl) rfl rfl rfl Tryz.call80 (a3Z (by omega)) (a0f (a0a rfl) (a0H a0b) a0n) rfl rfl rfl rfl ?_
  refine zD 7 ?_
  refine a1R (by kernel_rfl) ?_
  refine z ?_
  refine yQ rfl (fun c2 => ?_) fun c2 => ?_
  ·iterate 11 refine z ?_
   exfalso; rw [he] at c2; simp [a4v, sEq] at c2
  ·iterate 7 refine z ?_
   refine a0p ?_
   refine a0p ?_
   refine a1o (oB := []) (oK := []) (by kernel_rfl) rfl rfl ?_
   refine zD 0 ?_
   refine zD 1 ?_
   refine zD 2 ?_
   refine zD 3 ?_
   refine zD 4 ?_
   refine zD 5 ?_
   refine a2v 6 rfl (by kernel_rfl) rfl rfl rfl Tryz.call80 (a3Z (by omega)) (a0f (a0a rfl) (a0H a0b) a0n) rfl rfl rfl rfl ?_
   refine zD 7 ?_
   refine a1R (by kernel_rfl) ?_
   refine z ?_
   refine yQ rfl (fun c3 => ?_) fun c3 => ?_
   ·iterate 11 refine z ?_
    exfalso; rw [he] at c3; simp [a4v, sEq] at c3
   ·iterate 2 refine z ?_
    refine a0j ?_
    iterate 3 refine z ?_
    refine a1j ?_
    iterate 2 refine z ?_
    refine a0j ?_
    iterate 4 refine z ?_
    refine ⟨j + 1, ?_, ?_, a0e ⟨rfl, (a2E (by omega)), rfl, trivial⟩ trivial trivial rfl⟩
    ·omega
    ·omega
 ·have d1 := c5q c1
  iterate 11 refine z ?_
  have hq := a3r a2b x j (by omega); omega
theorem c4r {x : List (TxT)} {k : Int} (h0 : 0 ≤ k) (h1 : k + (wSum cTx x : Int) ≤ 4611686018427387904) : WFn Tryz.prog 44 [.one (.key 0), .one (.dv [] (.int .i64 (k)))] (.one (.dv [] (.int .i64 (k + (wSum cTx x : Int))))) [(0, a0d true (.sl 63 5 (x.length) (x.flatMap eTx)))] [(0, a0d true (a0Z (mkL a3v cTx x k)))] := by
 refine ⟨a0u Tryz.func44 rfl Tryz.ntmps44 Tryz.results44 rfl (fun C => ?_)⟩
 have hln : x.length ≤ wSum cTx x := a6M (fun _ => by simp only [cTx]; omega) x
 refine a0G (x := .tmp 1) (a0a rfl) fun f1 => ?_
 iterate 8 refine z ?_
 refine a0W (ι := Nat) (fun zz => ⟨[(0, .one (.key 0)), (1, .one (.dv [] (.int .i64 (k + (wSum cTx (x.take zz) : Int))))), (4, .one (.dv [] (.int .i64 (0)))), (5, .one (.dv [] (.int .i64 ((zz : Int)))))], [], [(0, some ⟨true, 63, 5, x.length, (mkL a3v cTx (x.take zz) k).flatMap eTx ++ (x.drop zz).flatMap eTx⟩)]⟩) (fun zz => zz ≤ x.length) (fun zz => x.length - zz) (0) ?_ (a0e ⟨rfl, (a2E (by simp [wSum])), rfl, rfl, trivial⟩ trivial ⟨rfl, trivial⟩ rfl) (fun zz hx => ?_)
 ·exact Nat.zero_le _
 obtain ⟨j, rfl⟩ : ∃ v, v = zz := ⟨_, rfl⟩
 replace hx : j ≤ x.length := hx
 have hw := fun h => a1T cTx x j h
 show Ok _ _ _ _ _ (⟨[(0, .one (.key 0)), (1, .one (.dv [] (.int .i64 (k + (wSum cTx (x.take j) : Int))))), (4, .one (.dv [] (.int .i64 (0)))), (5, .one (.dv [] (.int .i64 ((j : Int)))))], [], [(0, some ⟨true, 63, 5, x.length, (mkL a3v cTx (x.take j) k).flatMap eTx ++ (x.drop j).flatMap eTx⟩)]⟩ : St)
 iterate 4 refine z ?_
 refine yO rfl rfl (a3S (n := (x.length)) hT rfl rfl (a0a rfl) rfl rfl) rfl ?_
 iterate 2 refine z ?_
 refine yQ rfl (fun c1 => ?_) fun c1 => ?_
 ·have d1 := c5p c1
  have hj : j < x.length := by omega
  obtain ⟨hw1, hw2⟩ := hw hj
  have hc : cTx (x.getD (j : Int).toNat default) = 3 + wSum cOp ((x.getD (j : Int).toNat default).2.1) + wSum a1w ((x.getD (j : Int).toNat default).2.2.2.2) := rfl
  refine a5g (k := 0) (cs' := mid ((mkL a3v cTx (x.take j) k).flatMap eTx) [.int .i64 ((x.getD (j : Int).toNat default).1), a0F ((x.getD (j : Int).toNat default).2.1), .int .i64 ((x.getD (j : Int).toNat default).2.2.1), .int .i64 ((x.getD (j : Int).toNat default).2.2.2.1), a0k ((x.getD (j : Int).toNat default).2.2.2.2)] ((x.drop (j + 1)).flatMap eTx)) rfl (a7L hj) ?_
  iterate 8 refine z ?_
  refine yO rfl rfl (a1q (i := j) hT rfl rfl rfl (a0a rfl) rfl (a0a rfl) rfl (by show _ < (x.length); omega)) rfl ?_
  refine z ?_
  refine a1u (js := []) (cs := mid ((mkL a3v cTx (x.take j) k).flatMap eTx) [.int .i64 (k + (wSum cTx (x.take j) : Int)), a0F ((x.getD (j : Int).toNat default).2.1), .int .i64 ((x.getD (j : Int).toNat default).2.2.1), .int .i64 ((x.getD (j : Int).toNat default).2.2.2.1), a0k ((x.getD (j : Int).toNat default).2.2.2.2)] ((x.drop (j + 1)).flatMap eTx)) hT rfl rfl rfl rfl (a0a rfl) (a0a rfl) rfl rfl rfl rfl (a0o (a0C rfl) a1e rfl) (by decide) (by decide) rfl (a2a (off := (j * 5 + 0)) (n := 1) (j := 0) (a1s (sz := 5) (fun _ => rfl) (Nat.le_of_lt hj)) (by omega) (Nat.le_of_ble_eq_true rfl)) (a1S (off := (j * 5 + 0)) (j := 0) (a1s (sz := 5) (fun _ => rfl) (Nat.le_of_lt hj)) (by omega) rfl (Nat.le_of_ble_eq_true rfl)) ?_
  simp only [a0i, a0h, SV.kill, CV.kill, kk, Nat.reduceBEq]
  iterate 9 refine z ?_
  refine yO rfl rfl (a1q (i := j) hT rfl rfl rfl (a0a rfl) rfl (a0a rfl) rfl (by show _ < (x.length); omega)) rfl ?_
  refine z ?_
  refine yO rfl rfl (a3a hT rfl rfl (a0a rfl) rfl (a2m (off := (j * 5 + 1)) (j := 1) (a1s (sz := 5) (fun _ => rfl) (Nat.le_of_lt hj)) (by omega) rfl)) rfl ?_
  refine z ?_
  refine a9a (t := 23) (ccs := mid ((mkL a3v cTx (x.take j) k).flatMap eTx) [.int .i64 (k + (wSum cTx (x.take j) : Int)), a0F (mkL a2N cOp ((x.getD (j : Int).toNat default).2.1) ((k + (wSum cTx (x.take j) : Int)) + (1))), .int .i64 ((x.getD (j : Int).toNat default).2.2.1), .int .i64 ((x.getD (j : Int).toNat default).2.2.2.1), a0k ((x.getD (j : Int).toNat default).2.2.2.2)] ((x.drop (j + 1)).flatMap eTx)) 5025 rfl rfl rfl Tryz.call82 (c1h (by omega) (by omega)) rfl rfl (a2m (off := (j * 5 + 1)) (j := 1) (a1s (sz := 5) (fun _ => rfl) (Nat.le_of_lt hj)) (by omega) rfl) rfl (a2J (a0a rfl) (a3b (a4h rfl)) (a2J (a0a rfl) (a3b (a3I rfl)) a4C)) rfl rfl (a5l (off := (j * 5 + 1)) (j := 1) (a1s (sz := 5) (fun _ => rfl) (Nat.le_of_lt hj)) (by omega) rfl (Nat.lt_of_lt_of_le (Nat.lt_succ_self _) (Nat.le_of_ble_eq_true rfl))) ?_
  simp only [a0i, a0h, SV.kill, CV.kill, kk, Nat.reduceBEq]
  iterate 6 refine z ?_
  refine yO rfl rfl (a1q (i := j) hT rfl rfl rfl (a0a rfl) rfl (a0a rfl) rfl (by show _ < (x.length); omega)) rfl ?_
  refine z ?_
  refine a1u (js := []) (cs := mid ((mkL a3v cTx (x.take j) k).flatMap eTx) [.int .i64 (k + (wSum cTx (x.take j) : Int)), a0F (mkL a2N cOp ((x.getD (j : Int).toNat default).2.1) ((k + (wSum cTx (x.take j) : Int)) + (1))), .int .i64 (((k + (wSum cTx (x.take j) : Int)) + (1)) + (wSum cOp ((x.getD (j : Int).toNat default).2.1) : Int)), .int .i64 ((x.getD (j : Int).toNat default).2.2.2.1), a0k ((x.getD (j : Int).toNat default).2.2.2.2)] ((x.drop (j + 1)).flatMap eTx)) hT rfl rfl rfl rfl (a0a rfl) (a0a rfl) rfl rfl rfl rfl (a0o (a0C rfl) a1e rfl) (by decide) (by decide) rfl (a2a (off := (j * 5 + 2)) (n := 1) (j := 2) (a1s (sz := 5) (fun _ => rfl) (Nat.le_of_lt hj)) (by omega) (Nat.le_of_ble_eq_true rfl)) (a1S (off := (j * 5 + 2)) (j := 2) (a1s (sz := 5) (fun _ => rfl) (Nat.le_of_lt hj)) (by omega) rfl (Nat.le_of_ble_eq_true rfl)) ?_
  simp only [a0i, a0h, SV.kill, CV.kill, kk, Nat.reduceBEq]
  iterate 10 refine z ?_
  refine yO rfl rfl (a1q (i := j) hT rfl rfl rfl (a0a rfl) rfl (a0a rfl) rfl (by show _ < (x.length); omega)) rfl ?_
  refine z ?_
  refine a1u (js := []) (cs := mid ((mkL a3v cTx (x.take j) k).flatMap eTx) [.int .i64 (k + (wSum cTx (x.take j) : Int)), a0F (mkL a2N cOp ((x.getD (j : Int).toNat default).2.1) ((k + (wSum cTx (x.take j) : Int)) + (1))), .int .i64 (((k + (wSum cTx (x.take j) : Int)) + (1)) + (wSum cOp ((x.getD (j : Int).toNat default).2.1) : Int)), .int .i64 ((((k + (wSum cTx (x.take j) : Int)) + (1)) + (wSum cOp ((x.getD (j : Int).toNat default).2.1) : Int)) + (1)), a0k ((x.getD (j : Int).toNat default).2.2.2.2)] ((x.drop (j + 1)).flatMap eTx)) hT rfl rfl rfl rfl (a0a rfl) (a0a rfl) rfl rfl rfl rfl (a0o (a0C rfl) a1e rfl) (by decide) (by decide) rfl (a2a (off := (j * 5 + 3)) (n := 1) (j := 3) (a1s (sz := 5) (fun _ => rfl) (Nat.le_of_lt hj)) (by omega) (Nat.le_of_ble_eq_true rfl)) (a1S (off := (j * 5 + 3)) (j := 3) (a1s (sz := 5) (fun _ => rfl) (Nat.le_of_lt hj)) (by omega) rfl (Nat.le_of_ble_eq_true rfl)) ?_
  simp only [a0i, a0h, SV.kill, CV.kill, kk, Nat.reduceBEq]
  iterate 6 refine z ?_
  refine a0j ?_
  iterate 2 refine z ?_
  refine yO rfl rfl (a1q (i := j) hT rfl rfl rfl (a0a rfl) rfl (a0a rfl) rfl (by show _ < (x.length); omega)) rfl ?_
  refine z ?_
  refine yO rfl rfl (a3a hT rfl rfl (a0a rfl) rfl (a2m (off := (j * 5 + 4)) (j := 4) (a1s (sz := 5) (fun _ => rfl) (Nat.le_of_lt hj)) (by omega) rfl)) rfl ?_
  refine z ?_
  refine a9a (t := 44) (ccs := mid ((mkL a3v cTx (x.take j) k).flatMap eTx) [.int .i64 (k + (wSum cTx (x.take j) : Int)), a0F (mkL a2N cOp ((x.getD (j : Int).toNat default).2.1) ((k + (wSum cTx (x.take j) : Int)) + (1))), .int .i64 (((k + (wSum cTx (x.take j) : Int)) + (1)) + (wSum cOp ((x.getD (j : Int).toNat default).2.1) : Int)), .int .i64 ((((k + (wSum cTx (x.take j) : Int)) + (1)) + (wSum cOp ((x.getD (j : Int).toNat default).2.1) : Int)) + (1)), a0k (mkL a3K a1w ((x.getD (j : Int).toNat default).2.2.2.2) (((((k + (wSum cTx (x.take j) : Int)) + (1)) + (wSum cOp ((x.getD (j : Int).toNat default).2.1) : Int)) + (1)) + (1)))] ((x.drop (j + 1)).flatMap eTx)) 5046 rfl rfl rfl Tryz.call42 (b4y (by omega) (by omega)) rfl rfl (a2m (off := (j * 5 + 4)) (j := 4) (a1s (sz := 5) (fun _ => rfl) (Nat.le_of_lt hj)) (by omega) rfl) rfl (a2J (a0a rfl) (a3b (a4h rfl)) (a2J (a0a rfl) (a3b (a3I rfl)) a4C)) rfl rfl (a5l (off := (j * 5 + 4)) (j := 4) (a1s (sz := 5) (fun _ => rfl) (Nat.le_of_lt hj)) (by omega) rfl (Nat.lt_of_lt_of_le (Nat.lt_succ_self _) (Nat.le_of_ble_eq_true rfl))) ?_
  simp only [a0i, a0h, SV.kill, CV.kill, kk, Nat.reduceBEq]
  refine z ?_
  refine a1j ?_
  iterate 2 refine z ?_
  refine a0j ?_
  iterate 4 refine z ?_
  refine ⟨j + 1, ?_, ?_, a0e ⟨rfl, (a2E (by omega)), rfl, rfl, trivial⟩ trivial ⟨(congrArg (fun cs => some (some (KC.mk true 63 5 x.length cs))) (a7B (by omega) (by rfl))), trivial⟩ rfl⟩
  ·omega
  ·omega
 ·have d1 := c5q c1
  iterate 9 refine z ?_
  refine a0r (σ' := ⟨[(4, .one (.dv [] (.int .i64 (k + (wSum cTx (x.take j) : Int)))))], [], [(0, some (a0d true (a0Z (mkL a3v cTx x k))))]⟩) (a0e ⟨rfl, trivial⟩ trivial ⟨(a7h (by omega)), trivial⟩ rfl) ?_
  refine z ?_
  refine a1B (a0B rfl) ⟨eqI ?_, a6P rfl⟩
  have hq := a3r cTx x j (by omega); omega
theorem c4h {x y : List (TxT)} {k : Int} (hy : y = mkL a3v cTx x k) (h0 : 0 ≤ k) (h1 : k + (wSum cTx x : Int) ≤ 4611686018427387904) : PFn Tryz.prog 47 [.one (.dv [] (a0Z (y))), .one (.dv [] (.int .i64 (k)))] (.one (.dv [] (.int .i64 (k + (wSum cTx x : Int))))) := by
 refine ⟨a0u Tryz.func47 rfl Tryz.ntmps47 Tryz.results47 rfl (fun C => ?_)⟩
 refine a0G (x := .tmp 0) (a0a rfl) fun f0 => ?_
 refine a0G (x := .tmp 1) (a0a rfl) fun f1 => ?_
 iterate 8 refine z ?_
 refine a0W (ι := Nat) (fun zz => ⟨[(0, .one (.dv [] (a0Z (y)))), (1, .one (.dv [] (.int .i64 (k + (wSum cTx (x.take zz) : Int))))), (5, .one (.dv [] (.int .i64 ((zz : Int)))))], [], []⟩) (fun zz => zz ≤ x.length) (fun zz => x.length - zz) (0) ?_ (a0e ⟨rfl, (a2E (by simp [wSum])), rfl, trivial⟩ trivial trivial rfl) (fun zz hx => ?_)
 ·exact Nat.zero_le _
 obtain ⟨j, rfl⟩ : ∃ v, v = zz := ⟨_, rfl⟩
 replace hx : j ≤ x.length := hx
 have hw := fun h => a1T cTx x j h
 have hyl : y.length = x.length := by rw [hy, a5y]
 show Ok _ _ _ _ _ (⟨[(0, .one (.dv [] (a0Z (y)))), (1, .one (.dv [] (.int .i64 (k + (wSum cTx (x.take j) : Int))))), (5, .one (.dv [] (.int .i64 ((j : Int)))))], [], []⟩ : St)
 iterate 7 refine z ?_
 refine yQ rfl (fun c1 => ?_) fun c1 => ?_
 ·have d1 := c5p c1
  have hj : j < x.length := by omega
  obtain ⟨hw1, hw2⟩ := hw hj
  have hc : cTx (x.getD (j : Int).toNat default) = 3 + wSum cOp ((x.getD (j : Int).toNat default).2.1) + wSum a1w ((x.getD (j : Int).toNat default).2.2.2.2) := rfl
  have he : y.getD (j : Int).toNat default = a3v (x.getD (j : Int).toNat default) (k + (wSum cTx (x.take j) : Int)) := by rw [hy]; exact a8d hj
  iterate 14 refine z ?_
  refine yQ rfl (fun c2 => ?_) fun c2 => ?_
  ·have d2 := a2g c2
   iterate 11 refine z ?_
   exfalso; rw [he] at c2; simp [a3v, sEq] at c2
  ·have d2 := a2j c2
   iterate 14 refine z ?_
   refine zC Tryz.call84 ?_ (hf := c2q (x := (x.getD (j : Int).toNat default).2.1) (by rw [he]; rfl) (by omega) (by omega))
   iterate 7 refine z ?_
   refine yQ rfl (fun c3 => ?_) fun c3 => ?_
   ·have d3 := c5p c3
    iterate 11 refine z ?_
    exfalso; omega
   ·have d3 := c5q c3
    iterate 12 refine z ?_
    refine yQ rfl (fun c4 => ?_) fun c4 => ?_
    ·have d4 := a2g c4
     iterate 11 refine z ?_
     exfalso; rw [he] at c4; simp [a3v, sEq] at c4
    ·have d4 := a2j c4
     iterate 17 refine z ?_
     refine yQ rfl (fun c5 => ?_) fun c5 => ?_
     ·have d5 := a2g c5
      iterate 11 refine z ?_
      exfalso; rw [he] at c5; simp [a3v, sEq] at c5
     ·have d5 := a2j c5
      iterate 14 refine z ?_
      refine zC Tryz.call45 ?_ (hf := b8e (x := (x.getD (j : Int).toNat default).2.2.2.2) (by rw [he]; rfl) (by omega) (by omega))
      iterate 6 refine z ?_
      refine yQ rfl (fun c6 => ?_) fun c6 => ?_
      ·have d6 := c5p c6
       iterate 10 refine z ?_
       exfalso; omega
      ·have d6 := c5q c6
       iterate 3 refine z ?_
       refine a0j ?_
       iterate 4 refine z ?_
       refine ⟨j + 1, ?_, ?_, a0e ⟨rfl, (a2E (by omega)), rfl, trivial⟩ trivial trivial rfl⟩
       ·omega
       ·omega
 ·have d1 := c5q c1
  iterate 11 refine z ?_
  have hq := a3r cTx x j (by omega); omega
theorem b8h {x : List TxT} {k : Int} (h0 : 0 ≤ k) (h1 : (k) + (wSum cTx (x) : Int) ≤ 4611686018427387904) : WFn Tryz.prog 15 [.agg [(.key 0)], .one (.dv [] (.int .i64 (k)))] (.one (.dv [] (.int .i64 ((k) + (wSum cTx (x) : Int))))) [(0, a0d true (.sl 63 5 ((x).length) ((x).flatMap eTx)))] [(0, a0d true (a0Z (mkL a3v cTx (x) (k))))] := by
 refine ⟨a0u Tryz.func15 rfl Tryz.ntmps15 Tryz.results15 rfl (fun C => ?_)⟩
 refine a0G (x := .tmp 1) (a0a rfl) fun f1 => ?_
 iterate 8 refine z ?_
 refine a6A [(0, 0, ⟨true, _, _, _, _⟩, ⟨true, _, _, _, _⟩)] rfl rfl rfl Tryz.call44 (c4r (x := x) (by omega) (by omega)) ⟨rfl, trivial⟩ rfl (a2J (a0a rfl) (a3b (a4h rfl)) (a2J (a0a rfl) (a3b (a3I rfl)) a4C)) rfl rfl ?_
 simp only [a0i, a0h, SV.kill, CV.kill, kk, Nat.reduceBEq]
 iterate 6 refine z ?_
 refine a0r (σ' := ⟨[(4, .one (.dv [] (.int .i64 ((k) + (wSum cTx (x) : Int)))))], [], [(0, some (a0d true (a0Z (mkL a3v cTx (x) (k)))))]⟩) (a0e ⟨rfl, trivial⟩ trivial ⟨rfl, trivial⟩ rfl) ?_
 refine z ?_
 refine a1B (a0B rfl) ⟨eqI ?_, a6P rfl⟩
 rfl
theorem b7C {x y : List TxT} {k : Int} (hy : y = c3f x k) (h0 : 0 ≤ k) (h1 : (k) + (wSum cTx (x) : Int) ≤ 4611686018427387904) : PFn Tryz.prog 18 [.agg [(.dv [] (a0Z (y)))], .one (.dv [] (.int .i64 (k)))] (.one (.dv [] (.int .i64 ((k) + (wSum cTx (x) : Int))))) := by
 refine ⟨a0u Tryz.func18 rfl Tryz.ntmps18 Tryz.results18 rfl (fun C => ?_)⟩
 refine yF 0 0 rfl rfl fun f0_0 => ?_
 refine a0G (x := .tmp 1) (a0a rfl) fun f1 => ?_
 iterate 8 refine z ?_
 refine zC Tryz.call47 ?_ (hf := c4h (x := x) (by rw [hy]; rfl) (by omega) (by omega))
 iterate 7 refine z ?_
 refine yQ rfl (fun c1 => ?_) fun c1 => ?_
 ·have d1 := c5p c1
  iterate 6 refine z ?_
  exfalso; omega
 ·have d1 := c5q c1
  iterate 8 refine z ?_
  rfl
theorem b6Y {x : DbT} {k : Int} (h0 : 0 ≤ k) (h1 : ((k) + (wSum a1w (x.2.2.1) : Int)) + (wSum a2b (x.2.2.2) : Int) ≤ 4611686018427387904) : WFn Tryz.prog 14 [.agg [(.dv [] (.str (x.1))), (.dv [] (.int .i64 (x.2.1))), (.key 0), (.key 1)], .one (.dv [] (.int .i64 (k)))] (.one (.dv [] (.int .i64 (((k) + (wSum a1w (x.2.2.1) : Int)) + (wSum a2b (x.2.2.2) : Int))))) [(0, a0d true (.sl 89 3 ((x.2.2.1).length) ((x.2.2.1).flatMap a0U))), (1, a0d true (.sl 95 2 ((x.2.2.2).length) ((x.2.2.2).flatMap a1y)))] [(0, a0d true (a0k (mkL a3K a1w (x.2.2.1) (k)))), (1, a0d true (a0A (mkL a4v a2b (x.2.2.2) ((k) + (wSum a1w (x.2.2.1) : Int)))))] := by
 refine ⟨a0u Tryz.func14 rfl Tryz.ntmps14 Tryz.results14 rfl (fun C => ?_)⟩
 refine yF 0 0 rfl rfl fun f0_0 => ?_
 refine yF 0 1 rfl rfl fun f0_1 => ?_
 refine a0G (x := .tmp 1) (a0a rfl) fun f1 => ?_
 iterate 8 refine z ?_
 refine a6A [(0, 0, ⟨true, _, _, _, _⟩, ⟨true, _, _, _, _⟩)] rfl rfl rfl Tryz.call42 (b4y (x := x.2.2.1) (by omega) (by omega)) ⟨rfl, trivial⟩ rfl (a2J (a0a rfl) (a3b (a4h rfl)) (a2J (a0a rfl) (a3b (a3I rfl)) a4C)) rfl rfl ?_
 simp only [a0i, a0h, SV.kill, CV.kill, kk, Nat.reduceBEq]
 iterate 6 refine z ?_
 refine a6A [(0, 1, ⟨true, _, _, _, _⟩, ⟨true, _, _, _, _⟩)] rfl rfl rfl Tryz.call43 (c4w (x := x.2.2.2) (by omega) (by omega)) ⟨rfl, trivial⟩ rfl (a2J (a0a rfl) (a3b (a4h rfl)) (a2J (a0a rfl) (a3b (a3I rfl)) a4C)) rfl rfl ?_
 simp only [a0i, a0h, SV.kill, CV.kill, kk, Nat.reduceBEq]
 iterate 6 refine z ?_
 refine a0r (σ' := ⟨[(4, .one (.dv [] (.int .i64 (((k) + (wSum a1w (x.2.2.1) : Int)) + (wSum a2b (x.2.2.2) : Int)))))], [], [(0, some (a0d true (a0k (mkL a3K a1w (x.2.2.1) (k))))), (1, some (a0d true (a0A (mkL a4v a2b (x.2.2.2) ((k) + (wSum a1w (x.2.2.1) : Int))))))]⟩) (a0e ⟨rfl, trivial⟩ trivial ⟨rfl, rfl, trivial⟩ rfl) ?_
 refine z ?_
 refine a1B (a0B rfl) ⟨eqI ?_, c4n rfl rfl⟩
 rfl
theorem b8u {x y : DbT} {k : Int} (hy : y = c4U x k) (h0 : 0 ≤ k) (h1 : ((k) + (wSum a1w (x.2.2.1) : Int)) + (wSum a2b (x.2.2.2) : Int) ≤ 4611686018427387904) : PFn Tryz.prog 17 [.agg [(.dv [] (.str (y.1))), (.dv [] (.int .i64 (y.2.1))), (.dv [] (a0k (y.2.2.1))), (.dv [] (a0A (y.2.2.2)))], .one (.dv [] (.int .i64 (k)))] (.one (.dv [] (.int .i64 (((k) + (wSum a1w (x.2.2.1) : Int)) + (wSum a2b (x.2.2.2) : Int))))) := by
 refine ⟨a0u Tryz.func17 rfl Tryz.ntmps17 Tryz.results17 rfl (fun C => ?_)⟩
 refine yF 0 0 rfl rfl fun f0_0 => ?_
 refine yF 0 1 rfl rfl fun f0_1 => ?_
 refine yF 0 2 rfl rfl fun f0_2 => ?_
 refine yF 0 3 rfl rfl fun f0_3 => ?_
 refine a0G (x := .tmp 1) (a0a rfl) fun f1 => ?_
 iterate 8 refine z ?_
 refine zC Tryz.call45 ?_ (hf := b8e (x := x.2.2.1) (by rw [hy]; rfl) (by omega) (by omega))
 iterate 7 refine z ?_
 refine yQ rfl (fun c1 => ?_) fun c1 => ?_
 ·have d1 := c5p c1
  iterate 6 refine z ?_
  exfalso; omega
 ·have d1 := c5q c1
  iterate 6 refine z ?_
  refine zC Tryz.call46 ?_ (hf := c0x (x := x.2.2.2) (by rw [hy]; rfl) (by omega) (by omega))
  iterate 7 refine z ?_
  refine yQ rfl (fun c2 => ?_) fun c2 => ?_
  ·have d2 := c5p c2
   iterate 6 refine z ?_
   exfalso; omega
  ·have d2 := c5q c2
   iterate 8 refine z ?_
   rfl
theorem b4C (a b : Str) : sEq a b = sEq b a := by unfold sEq; rw [Bool.eq_iff_iff, beq_iff_eq, beq_iff_eq]; exact ⟨Eq.symm, Eq.symm⟩
theorem b7E (a b : a2M) : a3E a b = a3E b a := by unfold a3E; rw [b4C a.1, b4C a.2]
theorem b7W {α : Type} {p : α → Bool} : ∀ (xs : List α) (i : Int), 0 ≤ i → xs.any p = true → i ≤ a0q p xs i
 | [], _, _, h => by simp at h
 | x :: xs, i, hi, h => by
  rw [a0q]
  split
  ·omega
  ·rename_i hp
   rw [List.any_cons] at h
   have hp' : p x = false := by simpa using hp
   rw [hp', Bool.false_or] at h
   have := b7W xs (i + 1) (by omega) h
   omega
theorem b7S {α : Type} {p : α → Bool} : ∀ (xs : List α) (i : Int), xs.any p = false → a0q p xs i = -1
 | [], _, _ => rfl
 | x :: xs, i, h => by
  simp only [List.any_cons, Bool.or_eq_false_iff] at h
  rw [a0q, if_neg (by rw [h.1]; simp)]
  exact b7S xs (i + 1) h.2
theorem b6r {α : Type} {p : α → Bool} (xs : List α) : decide (0 ≤ a0q p xs 0) = xs.any p := by
 cases h : xs.any p with
 | true => exact decide_eq_true (b7W xs 0 (by omega) h)
 | false => rw [b7S xs 0 h]; rfl
def a5W (d : DbT) (k : Nat) : Bool := !a1E (d.2.2.1.getD (k : Int).toNat default) || (decide ((0 : Int) < (k : Int)) && (sLt (d.2.2.1.getD (k : Int).toNat default).1 (d.2.2.1.getD ((k : Int) - 1).toNat default).1 || sEq (d.2.2.1.getD (k : Int).toNat default).1 (d.2.2.1.getD ((k : Int) - 1).toNat default).1))
def b3c (d : DbT) (k : Nat) : Bool := !a1E (d.2.2.1.getD (k : Int).toNat default) || (decide ((0 : Int) < (k : Int)) && !sLt (d.2.2.1.getD ((k : Int) - 1).toNat default).1 (d.2.2.1.getD (k : Int).toNat default).1)
theorem b3Y (d : DbT) (k : Nat) : b3c d k = a5W d k := by unfold b3c a5W; rw [a7e]
@[reducible] def a1U (d : DbT) (n : Str) : Int := a0q (a0D n) d.2.2.1 0
def a9b (d : DbT) (x : a2M) : Bool := (a3u x.2 (a0M x.2 (d.2.2.1.getD (a1U d x.1).toNat default).2.1 (d.2.2.1.getD (a1U d x.1).toNat default).2.1.length)).2.2
def a3F (d : DbT) (k : Nat) : Bool := ((decide (a1U d (d.2.2.2.getD (k : Int).toNat default).1 < 0) || !a3l (d.2.2.2.getD (k : Int).toNat default).2) || (d.2.2.2.take (k : Int).toNat).any (a3E (d.2.2.2.getD (k : Int).toNat default))) || a9b d (d.2.2.2.getD (k : Int).toNat default)
def a6L (d : DbT) : Bool := ((a3l d.1 && (decide (0 ≤ d.2.1) && decide (d.2.1 ≤ 1000))) && decide ((d.2.2.1.length : Int) ≤ 4)) && decide ((d.2.2.2.length : Int) ≤ 4)
def a6e (d : DbT) : Bool := (List.range d.2.2.1.length).all (fun i => !a5W d i)
def a8E (d : DbT) : Bool := (List.range d.2.2.2.length).all (fun i => !a3F d i)
def a2c (d : DbT) : Bool := a6L d && (a6e d && a8E d)
theorem a8N {s : a0I} (h : a1E s = true) : a0v s ≤ 1000 * 1000 := by
 have h0 := h
 simp only [a1E, Bool.and_eq_true, List.all_eq_true, decide_eq_true_eq] at h
 obtain ⟨h1, ⟨h2, h3⟩, h4⟩ := h
 have h5 := a8C h2
 have h6 : ∀ x ∈ s.2.1, a1a x ≤ 70 := fun x hx => by
  obtain ⟨i, hi, rfl⟩ := List.mem_iff_getElem.1 hx
  have h7 := h1 i (List.mem_range.2 hi)
  unfold a4u at h7
  rw [a4L hi] at h7
  simp only [Bool.not_or, Bool.not_not, Bool.and_eq_true] at h7
  have h8 := (b7i h7.1.1).2.2
  have h9 := h7.1.2
  have h10 := b7n h9
  have h11 : wSum a1v s.2.1[i].2 ≤ 8 * s.2.1[i].2.length := by
   have key : ∀ r : a0J, (∀ f ∈ r, f.1.size ≤ 8) → wSum a1v r ≤ 8 * r.length := by
    intro r
    induction r with
    | nil => intro _; simp [wSum]
    | cons f r ih =>
     intro hf
     have k1 := ih (fun g hg => hf g (by simp [hg]))
     have k2 := hf f (by simp)
     have k3 : a1v f = f.1.size := rfl
     simp only [wSum, List.map_cons, List.sum_cons, List.length_cons] at *
     omega
   refine key _ (fun f hf => ?_)
   obtain ⟨j, hj, rfl⟩ := List.mem_iff_getElem.1 hf
   have := (a8C (b5S h9 hj).1).2
   rwa [a4L hj] at this
  have h12 : a1a s.2.1[i] = s.2.1[i].1.2.2.size + a2e s.2.1[i].2 := rfl
  have h13 : a2e s.2.1[i].2 = s.2.1[i].2.length + wSum a1v s.2.1[i].2 := rfl
  omega
 have h7 : wSum a1a s.2.1 ≤ 70 * s.2.1.length := by
  have key : ∀ l : List a0Q, (∀ x ∈ l, a1a x ≤ 70) → wSum a1a l ≤ 70 * l.length := by
   intro l
   induction l with
   | nil => intro _; simp [wSum]
   | cons x l ih =>
    intro hx
    have k1 := ih (fun g hg => hx g (by simp [hg]))
    have k2 := hx x (by simp)
    simp only [wSum, List.map_cons, List.sum_cons, List.length_cons] at *
    omega
  exact key _ h6
 have h8 : a0v s = s.1.size + (s.2.1.length + wSum a1a s.2.1) := rfl
 omega
theorem a6G {d : DbT} {i : Int} (h : a6e d = true) (h0 : 0 ≤ i) (h1 : i < d.2.2.1.length) : a1E (d.2.2.1.getD i.toNat default) = true := by
 simp only [a6e, List.all_eq_true] at h
 have h2 := h i.toNat (List.mem_range.2 (by omega))
 unfold a5W at h2
 rw [Int.toNat_natCast] at h2
 simp only [Bool.not_or, Bool.not_not, Bool.and_eq_true] at h2
 exact h2.1
theorem a5L (d : DbT) (n : Str) : a1U d n < d.2.2.1.length := by
 rcases a7W (p := a0D n) d.2.2.1 0 (by omega) with h1 | h1
 ·unfold a1U; omega
 ·unfold a1U; omega
theorem c2T {d : DbT} (h : a6L d = false) : a2c d = false := by rw [a2c, h]; rfl
theorem b6z {d : DbT} {k : Nat} (hk : k < d.2.2.1.length) (h : a5W d k = true) : a2c d = false := by
 have : a6e d = false := a8m hk (by rw [h]; rfl)
 rw [a2c, this]; simp
theorem a9d {d : DbT} {k : Nat} (hk : k < d.2.2.2.length) (h : a3F d k = true) : a2c d = false := by
 have : a8E d = false := a8m hk (by rw [h]; rfl)
 rw [a2c, this]; simp
theorem c4I {d : DbT} {k j : Nat} (hj : j = k) (h1 : (decide (a0q (a0D (d.2.2.2.getD (k : Int).toNat default).1) d.2.2.1 0 < 0) || !a3l (d.2.2.2.getD (k : Int).toNat default).2) = false)
  (h3 : (d.2.2.2.take j).any (a3E (d.2.2.2.getD (k : Int).toNat default)) = false) (h2 : a9b d (d.2.2.2.getD (k : Int).toNat default) = false) : (!a3F d k) = true := by
 subst hj
 have h4 : (d.2.2.2.take ((j : Nat) : Int).toNat).any (a3E (d.2.2.2.getD (j : Int).toNat default)) = false := h3
 rw [a3F, h1, h4, h2]; rfl
theorem c1F {d : DbT} {k j : Nat} (hj : j < k) (hk : k < d.2.2.2.length) (h : a3E (d.2.2.2.getD (j : Int).toNat default) (d.2.2.2.getD (k : Int).toNat default) = true) : a3F d k = true := by
 have h4 : (d.2.2.2.take ((k : Nat) : Int).toNat).any (a3E (d.2.2.2.getD (k : Int).toNat default)) = true := by
  refine a7E (k := j) (d := default) (by rw [c5t, Int.toNat_natCast]; omega) ?_
  rw [b2t (by omega), b7E]; exact h
 rw [a3F, h4]; simp
theorem b5Q {d : DbT} (h1 : a6e d = true) (h2 : a8E d = true) : a2c d = a6L d := by rw [a2c, h1, h2]; simp
theorem c4u {l : List a2M} {v : a2M}  : PFn Tryz.prog 107 [.one (.dv [] (a0A (l))), .agg [(.dv [] (.str (v.1))), (.dv [] (.str (v.2)))]] (.one (.dv [] (.int .i64 (a0q (a3E v) l 0)))) := by
 refine ⟨a0u Tryz.func107 rfl Tryz.ntmps107 Tryz.results107 rfl (fun C => ?_)⟩
 refine a0G (x := .tmp 0) (a0a rfl) fun f0 => ?_
 refine yF 1 0 rfl rfl fun f1_0 => ?_
 refine yF 1 1 rfl rfl fun f1_1 => ?_
 iterate 11 refine z ?_
 refine a0W (ι := Nat) (fun zz => ⟨[(0, .one (.dv [] (a0A (l)))), (3, .box 3 0), (7, .one (.dv [] (.int .i64 ((((l)).length : Int))))), (8, .one (.dv [] (.int .i64 ((zz : Int)))))], [(3, 95, [(.dv [] (.str (v.1))), (.dv [] (.str (v.2)))])], []⟩) (fun zz => zz ≤ l.length ∧ (l.take zz).any (a3E v) = false) (fun zz => l.length - zz) (0) ?_ (a0e ⟨rfl, rfl, rfl, rfl, trivial⟩ ⟨rfl, trivial⟩ trivial rfl) (fun zz hx => ?_)
 ·exact ⟨Nat.zero_le _, rfl⟩
 obtain ⟨k, rfl⟩ : ∃ v, v = zz := ⟨_, rfl⟩
 replace hx : k ≤ l.length ∧ (l.take k).any (a3E v) = false := hx
 obtain ⟨hk, hall⟩ := hx
 show Ok _ _ _ _ _ (⟨[(0, .one (.dv [] (a0A (l)))), (3, .box 3 0), (7, .one (.dv [] (.int .i64 ((((l)).length : Int))))), (8, .one (.dv [] (.int .i64 ((k : Int)))))], [(3, 95, [(.dv [] (.str (v.1))), (.dv [] (.str (v.2)))])], []⟩ : St)
 iterate 3 refine z ?_
 refine a0p ?_
 refine yQ rfl (fun c1 => ?_) fun c1 => ?_
 ·have d1 := c5p c1
  iterate 8 refine z ?_
  refine a0p ?_
  refine a1o (oB := [3]) (oK := []) (by kernel_rfl) rfl rfl ?_
  refine zD 0 ?_
  refine zD 1 ?_
  refine zD 2 ?_
  refine zD 3 ?_
  refine zD 4 ?_
  refine a1X 5 rfl (by kernel_rfl) rfl rfl (b0c rfl (a0a rfl) (a0a rfl) rfl rfl Tryz.eqGuardType95 (b5A _ _ _ _)) rfl rfl rfl rfl ?_
  refine a1R (by kernel_rfl) ?_
  refine z ?_
  refine yQ rfl (fun c2 => ?_) fun c2 => ?_
  ·iterate 11 refine z ?_
   exact (a6V (p := a3E v) (d := default) hall (by omega) c2).symm
  ·iterate 3 refine z ?_
   refine a0j ?_
   iterate 3 refine z ?_
   refine ⟨k + 1, ?_, ?_, a0e ⟨rfl, rfl, rfl, rfl, trivial⟩ ⟨rfl, trivial⟩ trivial rfl⟩
   ·exact ⟨by omega, a6F (d := default) hall (by omega) c2⟩
   ·omega
 ·have d1 := c5q c1
  iterate 10 refine z ?_
  exact (a6Q (p := a3E v) hall (by omega)).symm
theorem c5n {l : List a2M} {v : a2M}  : PFn Tryz.prog 72 [.one (.dv [] (a0A (l))), .agg [(.dv [] (.str (v.1))), (.dv [] (.str (v.2)))]] (.one (.dv [] (.bool (l.any (a3E v))))) := by
 refine ⟨a0u Tryz.func72 rfl Tryz.ntmps72 Tryz.results72 rfl (fun C => ?_)⟩
 refine a0G (x := .tmp 0) (a0a rfl) fun f0 => ?_
 refine yF 1 0 rfl rfl fun f1_0 => ?_
 refine yF 1 1 rfl rfl fun f1_1 => ?_
 iterate 7 refine z ?_
 refine zC Tryz.call107 ?_ (hf := c4u (l := l) (v := v) )
 iterate 5 refine z ?_
 exact b6r l
theorem a9A {x : DbT}  : PFn Tryz.prog 35 [.agg [(.dv [] (.str (x.1))), (.dv [] (.int .i64 (x.2.1))), (.dv [] (a0k (x.2.2.1))), (.dv [] (a0A (x.2.2.2)))]] (.one (.dv [] (.bool (a2c x)))) := by
 refine ⟨a0u Tryz.func35 rfl Tryz.ntmps35 Tryz.results35 rfl (fun C => ?_)⟩
 refine yF 0 0 rfl rfl fun f0_0 => ?_
 refine yF 0 1 rfl rfl fun f0_1 => ?_
 refine yF 0 2 rfl rfl fun f0_2 => ?_
 refine yF 0 3 rfl rfl fun f0_3 => ?_
 iterate 8 refine z ?_
 refine zC Tryz.call68 ?_ (hf := a8x (s := x.1) )
 iterate 4 refine z ?_
 refine a1t (a1l rfl rfl rfl rfl rfl) rfl rfl Tryz.call69 (a5k (n := x.2.1) (lo := 0) (hi := 1000) ) (fun hg => (a0f (a0x rfl hg) (a0H a0b) (a0f (a0y (a0w rfl)) (a0H a0b) (a0f (a0y (a0w rfl)) (a0H a0b) a0n)))) rfl rfl ?_
 iterate 15 refine z ?_
 refine yQ rfl (fun c1 => ?_) fun c1 => ?_
 ·iterate 6 refine z ?_
  exact (c2T (by have h := c1; unfold a6L; grind)).symm
 ·iterate 10 refine z ?_
  refine a0W (ι := Nat) (fun zz => ⟨[(1, .box 1 0), (34, .one (.dv [] (a0k (x.2.2.1)))), (35, .one (.dv [] (.int .i64 ((((x.2.2.1)).length : Int))))), (36, .one (.dv [] (.int .i64 ((zz : Int)))))], [(1, 35, [(.dv [] (.str (x.1))), (.dv [] (.int .i64 (x.2.1))), (.dv [] (a0k (x.2.2.1))), (.dv [] (a0A (x.2.2.2)))])], []⟩) (fun zz => zz ≤ x.2.2.1.length ∧ (List.range zz).all (fun i => !a5W x i) = true) (fun zz => x.2.2.1.length - zz) (0) ?_ (a0e ⟨rfl, rfl, rfl, rfl, trivial⟩ ⟨rfl, trivial⟩ trivial rfl) (fun zz hx => ?_)
  ·exact ⟨Nat.zero_le _, rfl⟩
  obtain ⟨k, rfl⟩ : ∃ v, v = zz := ⟨_, rfl⟩
  replace hx : k ≤ x.2.2.1.length ∧ (List.range k).all (fun i => !a5W x i) = true := hx
  obtain ⟨hk, hall⟩ := hx
  show Ok _ _ _ _ _ (⟨[(1, .box 1 0), (34, .one (.dv [] (a0k (x.2.2.1)))), (35, .one (.dv [] (.int .i64 ((((x.2.2.1)).length : Int))))), (36, .one (.dv [] (.int .i64 ((k : Int)))))], [(1, 35, [(.dv [] (.str (x.1))), (.dv [] (.int .i64 (x.2.1))), (.dv [] (a0k (x.2.2.1))), (.dv [] (a0A (x.2.2.2)))])], []⟩ : St)
  iterate 3 refine z ?_
  refine a0p ?_
  refine yQ rfl (fun c2 => ?_) fun c2 => ?_
  ·have d2 := c5p c2
   iterate 12 refine z ?_
   refine a0p ?_
   refine a1o (oB := [1, 4]) (oK := []) (by kernel_rfl) rfl rfl ?_
   refine zD 0 ?_
   refine a2v 1 rfl (by kernel_rfl) rfl rfl rfl Tryz.call70 (a8B (s := (((x.2.2.1)).getD ((k : Int)).toNat default)) ) (a0f (a0a rfl) (a0l (a0c a0b (a0c a0b (a0c a0b a0m)))) a0n) rfl rfl rfl rfl ?_
   refine zD 2 ?_
   refine zD 3 ?_
   refine zDG 4 ?_
   refine zDG 5 ?_
   refine zDG 6 ?_
   refine zDG 7 ?_
   refine zDG 8 ?_
   refine zDG 9 ?_
   refine zDG 10 ?_
   refine zDG 11 ?_
   refine zDG 12 ?_
   refine zDG 13 ?_
   refine zDG 14 ?_
   refine zDG 15 ?_
   refine zDG 16 ?_
   refine zDG 17 ?_
   refine zD 18 ?_
   refine a1R (by kernel_rfl) ?_
   refine z ?_
   refine yQ rfl (fun c3 => ?_) fun c3 => ?_
   ·iterate 10 refine z ?_
    exact (b6z (k := k) (by omega) c3).symm
   ·iterate 3 refine z ?_
    refine a0j ?_
    iterate 3 refine z ?_
    refine ⟨k + 1, ?_, ?_, a0e ⟨rfl, rfl, rfl, rfl, trivial⟩ ⟨rfl, trivial⟩ trivial rfl⟩
    ·exact ⟨by omega, a6u hall (by have h : a5W x k = false := c3; simpa using h)⟩
    ·omega
  ·have d2 := c5q c2
   obtain rfl : k = x.2.2.1.length := by omega
   have hst : a6e x = true := hall
   clear hall hk
   iterate 13 refine z ?_
   refine a0W (ι := Nat) (fun zz => ⟨[(1, .box 1 0), (62, .one (.dv [] (a0A (x.2.2.2)))), (63, .one (.dv [] (.int .i64 ((((x.2.2.2)).length : Int))))), (64, .one (.dv [] (.int .i64 ((zz : Int)))))], [(1, 35, [(.dv [] (.str (x.1))), (.dv [] (.int .i64 (x.2.1))), (.dv [] (a0k (x.2.2.1))), (.dv [] (a0A (x.2.2.2)))])], []⟩) (fun zz => zz ≤ x.2.2.2.length ∧ (List.range zz).all (fun i => !a3F x i) = true) (fun zz => x.2.2.2.length - zz) (0) ?_ (a0e ⟨rfl, rfl, rfl, rfl, trivial⟩ ⟨rfl, trivial⟩ trivial rfl) (fun zz hx => ?_)
   ·exact ⟨Nat.zero_le _, rfl⟩
   obtain ⟨k, rfl⟩ : ∃ v, v = zz := ⟨_, rfl⟩
   replace hx : k ≤ x.2.2.2.length ∧ (List.range k).all (fun i => !a3F x i) = true := hx
   obtain ⟨hk2, hall2⟩ := hx
   show Ok _ _ _ _ _ (⟨[(1, .box 1 0), (62, .one (.dv [] (a0A (x.2.2.2)))), (63, .one (.dv [] (.int .i64 ((((x.2.2.2)).length : Int))))), (64, .one (.dv [] (.int .i64 ((k : Int)))))], [(1, 35, [(.dv [] (.str (x.1))), (.dv [] (.int .i64 (x.2.1))), (.dv [] (a0k (x.2.2.1))), (.dv [] (a0A (x.2.2.2)))])], []⟩ : St)
   iterate 3 refine z ?_
   refine a0p ?_
   refine yQ rfl (fun c4 => ?_) fun c4 => ?_
   ·have d4 := c5p c4
    iterate 16 refine z ?_
    refine zC Tryz.call71 ?_ (hf := a8Q (x := x) (n := (x.2.2.2.getD (k : Int).toNat default).1))
    iterate 2 refine z ?_
    refine a0p ?_
    refine a0p ?_
    refine a1o (oB := [1, 6]) (oK := []) (by kernel_rfl) rfl rfl ?_
    refine zD 0 ?_
    refine zD 1 ?_
    refine zD 2 ?_
    refine zDG 3 ?_
    refine zDG 4 ?_
    refine a4f 5 rfl (by kernel_rfl) (a1l rfl rfl rfl rfl rfl) rfl rfl Tryz.call68 (a8x (s := (((x.2.2.2)).getD ((k : Int)).toNat default).2) ) (fun hg => (a0f (a0x rfl hg) (a0H a0b) a0n)) rfl rfl ?_
    refine zDG 6 ?_
    refine zD 7 ?_
    refine zD 8 ?_
    refine zDG 9 ?_
    refine zDG 10 ?_
    refine zDG 11 ?_
    refine a7k 12 rfl (by kernel_rfl) (a1l rfl rfl rfl rfl rfl) rfl (fun hg => a8T hT rfl rfl rfl (a0x rfl hg) (a0x rfl hg) (fun _ => rfl) (by first | omega | (simp only [Bool.and_eq_true, Bool.or_eq_true, Bool.or_eq_false_iff, Bool.and_eq_false_iff, Bool.not_eq_true', Bool.not_eq_false', beq_iff_eq, decide_eq_true_eq, decide_eq_false_iff_not] at hg; omega) | (have hh := c5p (a4U hg); omega) | (have hh := c5p (a4U (a8c hg)); omega)) (by first | omega | (simp only [Bool.and_eq_true, Bool.or_eq_true, Bool.or_eq_false_iff, Bool.and_eq_false_iff, Bool.not_eq_true', Bool.not_eq_false', beq_iff_eq, decide_eq_true_eq, decide_eq_false_iff_not] at hg; omega) | (have hh := c5p (a4U hg); omega) | (have hh := c5p (a4U (a8c hg)); omega))) rfl rfl rfl rfl ?_
    refine zDG 13 ?_
    refine a4f 14 rfl (by kernel_rfl) (a1l rfl rfl rfl rfl rfl) rfl rfl Tryz.call72 (c5n (l := ((x.2.2.2)).take ((k : Int)).toNat) (v := (((x.2.2.2)).getD ((k : Int)).toNat default)) ) (fun hg => (a0f (a0x rfl hg) (a0H a0b) (a0f (a0x rfl hg) (a0l (a0c a0b (a0c a0b a0m))) a0n))) rfl rfl ?_
    refine zD 15 ?_
    refine a1R (by kernel_rfl) ?_
    refine z ?_
    refine yQ rfl (fun c5 => ?_) fun c5 => ?_
    ·iterate 11 refine z ?_
     exact (a9d (k := k) (by omega) (by have h3 : ((decide (a0q (a0D (x.2.2.2.getD (k : Int).toNat default).1) x.2.2.1 0 < 0) || !a3l (x.2.2.2.getD (k : Int).toNat default).2) || (x.2.2.2.take (k : Int).toNat).any (a3E (x.2.2.2.getD (k : Int).toNat default))) = true := c5; rw [a3F, h3]; rfl)).symm
    ·have hfl : a0q (a0D (x.2.2.2.getD (k : Int).toNat default).1) x.2.2.1 0 < x.2.2.1.length := a5L x (x.2.2.2.getD (k : Int).toNat default).1
     have hf0 : 0 ≤ a0q (a0D (x.2.2.2.getD (k : Int).toNat default).1) x.2.2.1 0 := by have h := c5; simp only [Bool.or_eq_false_iff, decide_eq_false_iff_not] at h; omega
     have hsw := a8N (a6G hst hf0 hfl)
     iterate 2 refine z ?_
     refine a0p ?_
     refine a1o (oB := [1, 6]) (oK := []) (by kernel_rfl) rfl rfl ?_
     refine zD 0 ?_
     refine zD 1 ?_
     refine zD 2 ?_
     refine zD 3 ?_
     refine zD 4 ?_
     refine zD 5 ?_
     refine zD 6 ?_
     refine a5q (A := [(12, 8, 98, _), (13, 9, 98, _)]) hT ⟨⟨_, _, rfl⟩, rfl, ⟨⟨_, _, rfl⟩, rfl, trivial⟩⟩ ?_
     refine b7p 7 rfl (by kernel_rfl) rfl rfl rfl (vok hT ⟨⟨_, _, rfl⟩, rfl, ⟨⟨_, _, rfl⟩, rfl, trivial⟩⟩ (by kernel_rfl) (by kernel_rfl)) (vok hT ⟨⟨_, _, rfl⟩, rfl, ⟨⟨_, _, rfl⟩, rfl, trivial⟩⟩ (by kernel_rfl) (by kernel_rfl)) rfl Tryz.call73 (c2L (x := (x.2.2.1.getD (a0q (a0D (x.2.2.2.getD (k : Int).toNat default).1) x.2.2.1 0).toNat default)) (f := (x.2.2.2.getD (k : Int).toNat default).2) (by omega)) (a0f (a0a rfl) (a0l (a0c a0b (a0c a0b (a0c a0b a0m)))) (a0f (a0a rfl) (a0H a0b) a0n)) rfl rfl rfl rfl ?_
     refine a5U 8 rfl (by kernel_rfl) rfl rfl rfl (vok hT ⟨⟨_, _, rfl⟩, rfl, ⟨⟨_, _, rfl⟩, rfl, trivial⟩⟩ (by kernel_rfl) (by kernel_rfl)) (vok hT ⟨⟨_, _, rfl⟩, rfl, ⟨⟨_, _, rfl⟩, rfl, trivial⟩⟩ (by kernel_rfl) (by kernel_rfl)) (a1Q (.inl rfl) (a0a rfl)) rfl rfl rfl rfl ?_
     refine a2L 9 rfl (by kernel_rfl) rfl rfl rfl rfl (vok hT ⟨⟨_, _, rfl⟩, rfl, ⟨⟨_, _, rfl⟩, rfl, trivial⟩⟩ (by kernel_rfl) (by kernel_rfl)) (vok hT ⟨⟨_, _, rfl⟩, rfl, ⟨⟨_, _, rfl⟩, rfl, trivial⟩⟩ (by kernel_rfl) (by kernel_rfl)) (a4z rfl (a0a rfl) rfl) rfl rfl ?_
     refine a2L 10 rfl (by kernel_rfl) rfl rfl rfl rfl (vok hT ⟨⟨_, _, rfl⟩, rfl, ⟨⟨_, _, rfl⟩, rfl, trivial⟩⟩ (by kernel_rfl) (by kernel_rfl)) (vok hT ⟨⟨_, _, rfl⟩, rfl, ⟨⟨_, _, rfl⟩, rfl, trivial⟩⟩ (by kernel_rfl) (by kernel_rfl)) (a4z rfl (a0a rfl) rfl) rfl rfl ?_
     refine a2L 11 rfl (by kernel_rfl) rfl rfl rfl rfl (vok hT ⟨⟨_, _, rfl⟩, rfl, ⟨⟨_, _, rfl⟩, rfl, trivial⟩⟩ (by kernel_rfl) (by kernel_rfl)) (vok hT ⟨⟨_, _, rfl⟩, rfl, ⟨⟨_, _, rfl⟩, rfl, trivial⟩⟩ (by kernel_rfl) (by kernel_rfl)) (a4F rfl (a0a rfl) rfl) rfl rfl ?_
     refine a5C (vok hT ⟨⟨_, _, rfl⟩, rfl, ⟨⟨_, _, rfl⟩, rfl, trivial⟩⟩ (by kernel_rfl) (by kernel_rfl)) rfl rfl (by kernel_rfl) ?_
     dsimp only [a3j, a2Z]
     refine a3c [14, 15, 16] rfl rfl (by kernel_rfl) ?_
     iterate 7 refine z ?_
     refine yQ rfl (fun c6 => ?_) fun c6 => ?_
     ·iterate 10 refine z ?_
      exact (a9d (k := k) (by omega) (by have h2 : a9b x (x.2.2.2.getD (k : Int).toNat default) = true := c6; rw [a3F, h2]; simp)).symm
     ·iterate 3 refine z ?_
      refine a0j ?_
      iterate 3 refine z ?_
      refine ⟨k + 1, ?_, ?_, a0e ⟨rfl, rfl, rfl, rfl, trivial⟩ ⟨rfl, trivial⟩ trivial rfl⟩
      ·exact ⟨by omega, a6u hall2 (by have h1 := c5; have h2 : a9b x (x.2.2.2.getD (k : Int).toNat default) = false := c6; show (!a3F x k) = true; rw [a3F, h2]; have h3 : ((decide (a0q (a0D (x.2.2.2.getD (k : Int).toNat default).1) x.2.2.1 0 < 0) || !a3l (x.2.2.2.getD (k : Int).toNat default).2) || (x.2.2.2.take (k : Int).toNat).any (a3E (x.2.2.2.getD (k : Int).toNat default))) = false := h1; rw [h3]; rfl)⟩
      ·omega
   ·have d4 := c5q c4
    iterate 10 refine z ?_
    obtain rfl : k = x.2.2.2.length := by omega
    rw [b5Q hst hall2]; have h := c1; unfold a6L; grind
theorem b2Q {x : DbT}  : PFn Tryz.prog 24 [.agg [(.dv [] (.str (x.1))), (.dv [] (.int .i64 (x.2.1))), (.dv [] (a0k (x.2.2.1))), (.dv [] (a0A (x.2.2.2)))]] (.one (.dv [] (.bool (a2c x)))) := by
 refine ⟨a0u Tryz.func24 rfl Tryz.ntmps24 Tryz.results24 rfl (fun C => ?_)⟩
 refine yF 0 0 rfl rfl fun f0_0 => ?_
 refine yF 0 1 rfl rfl fun f0_1 => ?_
 refine yF 0 2 rfl rfl fun f0_2 => ?_
 refine yF 0 3 rfl rfl fun f0_3 => ?_
 iterate 9 refine z ?_
 refine a0W (ι := Nat) (fun zz => ⟨[(1, .box 1 0), (3, .one (.dv [] (.int .i64 ((zz : Int)))))], [(1, 35, [(.dv [] (.str (x.1))), (.dv [] (.int .i64 (x.2.1))), (.dv [] (a0k (x.2.2.1))), (.dv [] (a0A (x.2.2.2)))])], []⟩) (fun zz => zz ≤ x.2.2.1.length ∧ (List.range zz).all (fun i => !a5W x i) = true) (fun zz => x.2.2.1.length - zz) (0) ?_ (a0e ⟨rfl, rfl, trivial⟩ ⟨rfl, trivial⟩ trivial rfl) (fun zz hx => ?_)
 ·exact ⟨Nat.zero_le _, rfl⟩
 obtain ⟨k, rfl⟩ : ∃ v, v = zz := ⟨_, rfl⟩
 replace hx : k ≤ x.2.2.1.length ∧ (List.range k).all (fun i => !a5W x i) = true := hx
 obtain ⟨hk, hall⟩ := hx
 show Ok _ _ _ _ _ (⟨[(1, .box 1 0), (3, .one (.dv [] (.int .i64 ((k : Int)))))], [(1, 35, [(.dv [] (.str (x.1))), (.dv [] (.int .i64 (x.2.1))), (.dv [] (a0k (x.2.2.1))), (.dv [] (a0A (x.2.2.2)))])], []⟩ : St)
 iterate 8 refine z ?_
 refine yQ rfl (fun c1 => ?_) fun c1 => ?_
 ·have d1 := c5p c1
  iterate 4 refine z ?_
  refine a0p ?_
  refine a1o (oB := [1]) (oK := []) (by kernel_rfl) rfl rfl ?_
  refine zD 0 ?_
  refine zD 1 ?_
  refine zD 2 ?_
  refine zD 3 ?_
  refine zD 4 ?_
  refine a2v 5 rfl (by kernel_rfl) rfl rfl rfl Tryz.call54 (b2N (s := (((x.2.2.1)).getD ((k : Int)).toNat default)) ) (a0f (a0a rfl) (a0l (a0c a0b (a0c a0b (a0c a0b a0m)))) a0n) rfl rfl rfl rfl ?_
  refine zD 6 ?_
  refine zD 7 ?_
  refine zDG 8 ?_
  refine zDG 9 ?_
  refine zDG 10 ?_
  refine zDG 11 ?_
  refine zDG 12 ?_
  refine zDG 13 ?_
  refine zDG 14 ?_
  refine zDG 15 ?_
  refine zDG 16 ?_
  refine zDG 17 ?_
  refine zDG 18 ?_
  refine zDG 19 ?_
  refine zDG 20 ?_
  refine zDG 21 ?_
  refine zDG 22 ?_
  refine zDG 23 ?_
  refine zDG 24 ?_
  refine zDG 25 ?_
  refine zD 26 ?_
  refine a1R (by kernel_rfl) ?_
  refine z ?_
  refine yQ rfl (fun c2 => ?_) fun c2 => ?_
  ·iterate 10 refine z ?_
   exact (b6z (k := k) (by omega) (by rw [← b3Y]; exact c2)).symm
  ·iterate 3 refine z ?_
   refine a0j ?_
   iterate 4 refine z ?_
   refine ⟨k + 1, ?_, ?_, a0e ⟨rfl, rfl, trivial⟩ ⟨rfl, trivial⟩ trivial rfl⟩
   ·exact ⟨by omega, a6u hall (by have h : b3c x k = false := c2; rw [b3Y] at h; simpa using h)⟩
   ·omega
 ·have d1 := c5q c1
  obtain rfl : k = x.2.2.1.length := by omega
  have hst : a6e x = true := hall
  clear hall hk
  iterate 10 refine z ?_
  refine a0W (ι := Nat) (fun zz => ⟨[(1, .box 1 0), (4, .one (.dv [] (.int .i64 ((zz : Int)))))], [(1, 35, [(.dv [] (.str (x.1))), (.dv [] (.int .i64 (x.2.1))), (.dv [] (a0k (x.2.2.1))), (.dv [] (a0A (x.2.2.2)))])], []⟩) (fun zz => zz ≤ x.2.2.2.length ∧ (List.range zz).all (fun i => !a3F x i) = true) (fun zz => x.2.2.2.length - zz) (0) ?_ (a0e ⟨rfl, rfl, trivial⟩ ⟨rfl, trivial⟩ trivial rfl) (fun zz hx => ?_)
  ·exact ⟨Nat.zero_le _, rfl⟩
  obtain ⟨k, rfl⟩ : ∃ v, v = zz := ⟨_, rfl⟩
  replace hx : k ≤ x.2.2.2.length ∧ (List.range k).all (fun i => !a3F x i) = true := hx
  obtain ⟨hk2, hall2⟩ := hx
  show Ok _ _ _ _ _ (⟨[(1, .box 1 0), (4, .one (.dv [] (.int .i64 ((k : Int)))))], [(1, 35, [(.dv [] (.str (x.1))), (.dv [] (.int .i64 (x.2.1))), (.dv [] (a0k (x.2.2.1))), (.dv [] (a0A (x.2.2.2)))])], []⟩ : St)
  iterate 8 refine z ?_
  refine yQ rfl (fun c3 => ?_) fun c3 => ?_
  ·have d3 := c5p c3
   iterate 4 refine z ?_
   refine a0p ?_
   refine a1o (oB := [1]) (oK := []) (by kernel_rfl) rfl rfl ?_
   refine zD 0 ?_
   refine zD 1 ?_
   refine zD 2 ?_
   refine zD 3 ?_
   refine zD 4 ?_
   refine zD 5 ?_
   refine zD 6 ?_
   refine a2v 7 rfl (by kernel_rfl) rfl rfl rfl Tryz.call55 (b0b (x := x) (n := (x.2.2.2.getD (k : Int).toNat default).1)) (a0f (a0a rfl) (a0l (a0c a0b (a0c a0b (a0c a0b (a0c a0b a0m))))) (a0f (a0a rfl) (a0H a0b) a0n)) rfl rfl rfl rfl ?_
   refine zD 8 ?_
   refine a1R (by kernel_rfl) ?_
   iterate 12 refine z ?_
   refine a1t (a1l rfl rfl rfl rfl rfl) rfl rfl Tryz.call56 (a7U (s := (((x.2.2.2)).getD ((k : Int)).toNat default).2) ) (fun hg => (a0f (a0x rfl hg) (a0H a0b) a0n)) rfl rfl ?_
   iterate 3 refine z ?_
   refine yQ rfl (fun c4 => ?_) fun c4 => ?_
   ·iterate 11 refine z ?_
    exact (a9d (k := k) (by omega) (by have h3 : (decide (a0q (a0D (x.2.2.2.getD (k : Int).toNat default).1) x.2.2.1 0 < 0) || !a3l (x.2.2.2.getD (k : Int).toNat default).2) = true := c4; rw [a3F, h3]; rfl)).symm
   ·have hfl : a0q (a0D (x.2.2.2.getD (k : Int).toNat default).1) x.2.2.1 0 < x.2.2.1.length := a5L x (x.2.2.2.getD (k : Int).toNat default).1
    have hf0 : 0 ≤ a0q (a0D (x.2.2.2.getD (k : Int).toNat default).1) x.2.2.1 0 := by have h := c4; simp only [Bool.or_eq_false_iff, decide_eq_false_iff_not] at h; omega
    have hsw := a8N (a6G hst hf0 hfl)
    iterate 2 refine z ?_
    refine a0p ?_
    refine a0p ?_
    refine a1o (oB := [1]) (oK := []) (by kernel_rfl) rfl rfl ?_
    refine zD 0 ?_
    refine zD 1 ?_
    refine zD 2 ?_
    refine zD 3 ?_
    refine zD 4 ?_
    refine zD 5 ?_
    refine zD 6 ?_
    refine zD 7 ?_
    refine zD 8 ?_
    refine zD 9 ?_
    refine zD 10 ?_
    refine a5q (A := [(16, 6, 98, _), (17, 7, 98, _)]) hT ⟨⟨_, _, rfl⟩, rfl, ⟨⟨_, _, rfl⟩, rfl, trivial⟩⟩ ?_
    refine b7p 11 rfl (by kernel_rfl) rfl rfl rfl (vok hT ⟨⟨_, _, rfl⟩, rfl, ⟨⟨_, _, rfl⟩, rfl, trivial⟩⟩ (by kernel_rfl) (by kernel_rfl)) (vok hT ⟨⟨_, _, rfl⟩, rfl, ⟨⟨_, _, rfl⟩, rfl, trivial⟩⟩ (by kernel_rfl) (by kernel_rfl)) rfl Tryz.call57 (b8v (x := (x.2.2.1.getD (a0q (a0D (x.2.2.2.getD (k : Int).toNat default).1) x.2.2.1 0).toNat default)) (f := (x.2.2.2.getD (k : Int).toNat default).2) (by omega)) (a0f (a0a rfl) (a0l (a0c a0b (a0c a0b (a0c a0b a0m)))) (a0f (a0a rfl) (a0H a0b) a0n)) rfl rfl rfl rfl ?_
    refine a5U 12 rfl (by kernel_rfl) rfl rfl rfl (vok hT ⟨⟨_, _, rfl⟩, rfl, ⟨⟨_, _, rfl⟩, rfl, trivial⟩⟩ (by kernel_rfl) (by kernel_rfl)) (vok hT ⟨⟨_, _, rfl⟩, rfl, ⟨⟨_, _, rfl⟩, rfl, trivial⟩⟩ (by kernel_rfl) (by kernel_rfl)) (a1Q (.inl rfl) (a0a rfl)) rfl rfl rfl rfl ?_
    refine a2L 13 rfl (by kernel_rfl) rfl rfl rfl rfl (vok hT ⟨⟨_, _, rfl⟩, rfl, ⟨⟨_, _, rfl⟩, rfl, trivial⟩⟩ (by kernel_rfl) (by kernel_rfl)) (vok hT ⟨⟨_, _, rfl⟩, rfl, ⟨⟨_, _, rfl⟩, rfl, trivial⟩⟩ (by kernel_rfl) (by kernel_rfl)) (a4z rfl (a0a rfl) rfl) rfl rfl ?_
    refine a2L 14 rfl (by kernel_rfl) rfl rfl rfl rfl (vok hT ⟨⟨_, _, rfl⟩, rfl, ⟨⟨_, _, rfl⟩, rfl, trivial⟩⟩ (by kernel_rfl) (by kernel_rfl)) (vok hT ⟨⟨_, _, rfl⟩, rfl, ⟨⟨_, _, rfl⟩, rfl, trivial⟩⟩ (by kernel_rfl) (by kernel_rfl)) (a4z rfl (a0a rfl) rfl) rfl rfl ?_
    refine a2L 15 rfl (by kernel_rfl) rfl rfl rfl rfl (vok hT ⟨⟨_, _, rfl⟩, rfl, ⟨⟨_, _, rfl⟩, rfl, trivial⟩⟩ (by kernel_rfl) (by kernel_rfl)) (vok hT ⟨⟨_, _, rfl⟩, rfl, ⟨⟨_, _, rfl⟩, rfl, trivial⟩⟩ (by kernel_rfl) (by kernel_rfl)) (a4F rfl (a0a rfl) rfl) rfl rfl ?_
    refine a5C (vok hT ⟨⟨_, _, rfl⟩, rfl, ⟨⟨_, _, rfl⟩, rfl, trivial⟩⟩ (by kernel_rfl) (by kernel_rfl)) rfl rfl (by kernel_rfl) ?_
    dsimp only [a3j, a2Z]
    refine a3c [18, 19, 20] rfl rfl (by kernel_rfl) ?_
    iterate 7 refine z ?_
    refine yQ rfl (fun c5 => ?_) fun c5 => ?_
    ·iterate 11 refine z ?_
     exact (a9d (k := k) (by omega) (by have h2 : a9b x (x.2.2.2.getD (k : Int).toNat default) = true := c5; rw [a3F, h2]; simp)).symm
    ·iterate 6 refine z ?_
     refine a0W (ι := Nat) (fun zz => ⟨[(1, .box 1 0), (4, .one (.dv [] (.int .i64 ((k : Int))))), (9, .one (.dv [] (.int .i64 ((zz : Int)))))], [(1, 35, [(.dv [] (.str (x.1))), (.dv [] (.int .i64 (x.2.1))), (.dv [] (a0k (x.2.2.1))), (.dv [] (a0A (x.2.2.2)))])], []⟩) (fun zz => zz ≤ k ∧ (x.2.2.2.take zz).any (a3E (x.2.2.2.getD (k : Int).toNat default)) = false) (fun zz => k - zz) (0) ?_ (a0e ⟨rfl, rfl, rfl, trivial⟩ ⟨rfl, trivial⟩ trivial rfl) (fun zz hx => ?_)
     ·exact ⟨Nat.zero_le _, rfl⟩
     obtain ⟨j, rfl⟩ : ∃ v, v = zz := ⟨_, rfl⟩
     replace hx : j ≤ k ∧ (x.2.2.2.take j).any (a3E (x.2.2.2.getD (k : Int).toNat default)) = false := hx
     obtain ⟨hj, hall3⟩ := hx
     show Ok _ _ _ _ _ (⟨[(1, .box 1 0), (4, .one (.dv [] (.int .i64 ((k : Int))))), (9, .one (.dv [] (.int .i64 ((j : Int)))))], [(1, 35, [(.dv [] (.str (x.1))), (.dv [] (.int .i64 (x.2.1))), (.dv [] (a0k (x.2.2.1))), (.dv [] (a0A (x.2.2.2)))])], []⟩ : St)
     iterate 6 refine z ?_
     refine yQ rfl (fun c6 => ?_) fun c6 => ?_
     ·have d6 := c5p c6
      iterate 4 refine z ?_
      refine a0p ?_
      refine a1o (oB := [1]) (oK := []) (by kernel_rfl) rfl rfl ?_
      refine zD 0 ?_
      refine zD 1 ?_
      refine zD 2 ?_
      refine zD 3 ?_
      refine zD 4 ?_
      refine zD 5 ?_
      refine zD 6 ?_
      refine zD 7 ?_
      refine zD 8 ?_
      refine zD 9 ?_
      refine a1X 10 rfl (by kernel_rfl) rfl rfl (b0c rfl (a0a rfl) (a0a rfl) rfl rfl Tryz.eqGuardType95 (b5A _ _ _ _)) rfl rfl rfl rfl ?_
      refine a1R (by kernel_rfl) ?_
      refine z ?_
      refine yQ rfl (fun c7 => ?_) fun c7 => ?_
      ·iterate 14 refine z ?_
       exact (a9d (k := k) (by omega) (c1F (j := j) (by omega) (by omega) c7)).symm
      ·iterate 3 refine z ?_
       refine a0j ?_
       iterate 4 refine z ?_
       refine ⟨j + 1, ?_, ?_, a0e ⟨rfl, rfl, rfl, trivial⟩ ⟨rfl, trivial⟩ trivial rfl⟩
       ·exact ⟨by omega, a7f (d := default) hall3 (by omega) (by rw [b7E]; exact c7)⟩
       ·omega
     ·have d6 := c5q c6
      iterate 6 refine z ?_
      refine a0j ?_
      iterate 4 refine z ?_
      refine ⟨k + 1, ?_, ?_, a0e ⟨rfl, rfl, trivial⟩ ⟨rfl, trivial⟩ trivial rfl⟩
      ·exact ⟨by omega, a6u hall2 (c4I (j := j) (by omega) c4 hall3 c5)⟩
      ·omega
  ·have d3 := c5q c3
   iterate 8 refine z ?_
   refine zC Tryz.call56 ?_ (hf := a7U (s := x.1) )
   iterate 3 refine z ?_
   refine a1t (a1l rfl rfl rfl rfl rfl) rfl rfl Tryz.call58 (a3Y (n := x.2.1) (lo := 0) (hi := 1000) ) (fun hg => (a0f (a0x rfl hg) (a0H a0b) (a0f (a0y (a0w rfl)) (a0H a0b) (a0f (a0y (a0w rfl)) (a0H a0b) a0n)))) rfl rfl ?_
   iterate 17 refine z ?_
   obtain rfl : k = x.2.2.2.length := by omega
   rw [b5Q hst hall2]; rfl
theorem a3T {α : Type} [Inhabited α] {enc : α → List DV} {xs : List α} {k : Nat} (hk : k < xs.length) : (xs.take k).flatMap enc ++ enc (xs.getD (k : Int).toNat default) = (xs.take (k + 1)).flatMap enc ∧ (xs.take k).length + 1 = (xs.take (k + 1)).length := by
 have e : xs.getD (k : Int).toNat default = xs[k] := by simp [List.getD, List.getElem?_eq_getElem hk]
 rw [List.take_add_one, List.getElem?_eq_getElem hk, e]
 simp only [Option.toList_some, List.flatMap_append, List.flatMap_cons, List.flatMap_nil, List.append_nil, c5s, List.length_singleton]
 exact ⟨trivial, trivial⟩
theorem b7N (o : OpT) : o.2.2.2.1.length ≤ wOp o := by unfold wOp a2e a0s; omega
theorem c5b {x : List OpT} (hb : a0s wOp x ≤ 1099511627776) : KFn Tryz.prog 100 [.one (.dv [] (a0F (x)))] (.one (.key 6)) [(6, some (a0d false (a0F (x))))] := by
 refine ⟨a0u Tryz.func100 rfl Tryz.ntmps100 Tryz.results100 rfl (fun C => ?_)⟩
 have hwl : a0s wOp x = x.length + wSum wOp x := rfl
 refine a0G (x := .tmp 0) (a0a rfl) fun f0 => ?_
 iterate 4 refine z ?_
 refine a5b (k := 6) hT rfl rfl rfl rfl rfl rfl rfl rfl ?_
 iterate 9 refine z ?_
 refine a0W (ι := Nat) (fun zz => ⟨[(2, .one .nil), (3, .one (.key 6)), (7, .one (.dv [] (a0F (x)))), (8, .one (.dv [] (.int .i64 ((((x)).length : Int))))), (9, .one (.dv [] (.int .i64 ((zz : Int)))))], [], [(6, some (a0d false (.sl 111 7 ((x.take zz).length) ((x.take zz).flatMap eOp))))]⟩) (fun zz => zz ≤ x.length) (fun zz => x.length - zz) (0) ?_ (a0e ⟨rfl, rfl, rfl, rfl, rfl, trivial⟩ trivial ⟨rfl, trivial⟩ rfl) (fun zz hx => ?_)
 ·exact Nat.zero_le _
 obtain ⟨k, rfl⟩ : ∃ v, v = zz := ⟨_, rfl⟩
 replace hx : k ≤ x.length := hx
 have hw := fun h => a1T wOp x k h
 show Ok _ _ _ _ _ (⟨[(2, .one .nil), (3, .one (.key 6)), (7, .one (.dv [] (a0F (x)))), (8, .one (.dv [] (.int .i64 ((((x)).length : Int))))), (9, .one (.dv [] (.int .i64 ((k : Int)))))], [], [(6, some (a0d false (.sl 111 7 ((x.take k).length) ((x.take k).flatMap eOp))))]⟩ : St)
 iterate 3 refine z ?_
 refine a0p ?_
 refine yQ rfl (fun c1 => ?_) fun c1 => ?_
 ·have d1 := c5p c1
  have hk2 : k < x.length := by omega
  obtain ⟨hw1, hw2⟩ := hw hk2
  have hrec := b7N (x.getD (k : Int).toNat default)
  iterate 13 refine z ?_
  refine zK 697 Tryz.call131 ?_ (hf := a7g (x := (((x)).getD ((k : Int)).toNat default).2.2.2.1) (by omega))
  iterate 3 refine z ?_
  refine a0j ?_
  iterate 2 refine z ?_
  refine a6n (k := 19) (js := [700]) hT rfl rfl rfl rfl rfl rfl rfl rfl rfl (a0a rfl) rfl rfl (a0o (a0C rfl) (a0o (a0C rfl) (a0o (a0C rfl) (a0o (a0C rfl) (a0o (a0C rfl) (a0o (a1Y rfl) (a0o (a0C rfl) a1e rfl) rfl) rfl) rfl) rfl) rfl) rfl) (by decide) (by decide) rfl rfl ?_
  simp only [a0i, a0h, SV.kill, CV.kill, kk, Nat.reduceBEq]
  refine a4r (k := 6) (j := 19) (cs := (x.take (k + 1)).flatMap eOp) (n := (x.take (k + 1)).length) hT rfl rfl rfl rfl rfl rfl rfl (a0a rfl) rfl rfl rfl (a0a rfl) rfl rfl (by decide) (by dsimp only [a0d]; simp only [c5t]; omega) (by dsimp only [a0d]; simp only [c5t]; omega) ((a3T (enc := eOp) hk2).2) ((a3T (enc := eOp) hk2).1) ?_
  simp only [a0i, a0h, SV.kill, CV.kill, kk, Nat.reduceBEq]
  refine z ?_
  refine a1j ?_
  iterate 2 refine z ?_
  refine a0j ?_
  iterate 3 refine z ?_
  refine ⟨k + 1, ?_, ?_, a0e ⟨rfl, rfl, rfl, rfl, rfl, trivial⟩ trivial ⟨rfl, trivial⟩ rfl⟩
  ·omega
  ·omega
 ·have d1 := c5q c1
  iterate 9 refine z ?_
  refine a0r (σ' := ⟨[(2, .one (.key 6))], [], [(6, some (a0d false (a0F (x))))]⟩) (a0e ⟨rfl, trivial⟩ trivial ⟨(congrArg (fun l : List (OpT) => some (some (KC.mk false 111 7 l.length (l.flatMap eOp)))) (List.take_of_length_le (by omega))), trivial⟩ rfl) ?_
  refine z ?_
  refine a1B (a0B rfl) ?_
  exact ⟨rfl, rfl⟩
theorem c4k {x : List OpT} (hb : a0s wOp x ≤ 1099511627776) : KFn Tryz.prog 52 [.one (.dv [] (a0F (x)))] (.one (.key 6)) [(6, some (a0d false (a0F (x))))] := by
 refine ⟨a0u Tryz.func52 rfl Tryz.ntmps52 Tryz.results52 rfl (fun C => ?_)⟩
 have hwl : a0s wOp x = x.length + wSum wOp x := rfl
 refine a0G (x := .tmp 0) (a0a rfl) fun f0 => ?_
 iterate 4 refine z ?_
 refine a5b (k := 6) hT rfl rfl rfl rfl rfl rfl rfl rfl ?_
 iterate 7 refine z ?_
 refine a0W (ι := Nat) (fun zz => ⟨[(0, .one (.dv [] (a0F (x)))), (2, .one .nil), (3, .one (.key 6)), (4, .one (.dv [] (.int .i64 ((zz : Int)))))], [], [(6, some (a0d false (.sl 111 7 ((x.take zz).length) ((x.take zz).flatMap eOp))))]⟩) (fun zz => zz ≤ x.length) (fun zz => x.length - zz) (0) ?_ (a0e ⟨rfl, rfl, rfl, rfl, trivial⟩ trivial ⟨rfl, trivial⟩ rfl) (fun zz hx => ?_)
 ·exact Nat.zero_le _
 obtain ⟨k, rfl⟩ : ∃ v, v = zz := ⟨_, rfl⟩
 replace hx : k ≤ x.length := hx
 have hw := fun h => a1T wOp x k h
 show Ok _ _ _ _ _ (⟨[(0, .one (.dv [] (a0F (x)))), (2, .one .nil), (3, .one (.key 6)), (4, .one (.dv [] (.int .i64 ((k : Int)))))], [], [(6, some (a0d false (.sl 111 7 ((x.take k).length) ((x.take k).flatMap eOp))))]⟩ : St)
 iterate 7 refine z ?_
 refine yQ rfl (fun c1 => ?_) fun c1 => ?_
 ·have d1 := c5p c1
  have hk2 : k < x.length := by omega
  obtain ⟨hw1, hw2⟩ := hw hk2
  have hrec := b7N (x.getD (k : Int).toNat default)
  iterate 18 refine z ?_
  refine zK 697 Tryz.call88 ?_ (hf := a7m (x := (((x)).getD ((k : Int)).toNat default).2.2.2.1) (by omega))
  iterate 3 refine z ?_
  refine a0j ?_
  iterate 2 refine z ?_
  refine a6n (k := 26) (js := [700]) hT rfl rfl rfl rfl rfl rfl rfl rfl rfl (a0a rfl) rfl rfl (a0o (a0C rfl) (a0o (a0C rfl) (a0o (a0C rfl) (a0o (a0C rfl) (a0o (a0C rfl) (a0o (a1Y rfl) (a0o (a0C rfl) a1e rfl) rfl) rfl) rfl) rfl) rfl) rfl) (by decide) (by decide) rfl rfl ?_
  simp only [a0i, a0h, SV.kill, CV.kill, kk, Nat.reduceBEq]
  refine a4r (k := 6) (j := 26) (cs := (x.take (k + 1)).flatMap eOp) (n := (x.take (k + 1)).length) hT rfl rfl rfl rfl rfl rfl rfl (a0a rfl) rfl rfl rfl (a0a rfl) rfl rfl (by decide) (by dsimp only [a0d]; simp only [c5t]; omega) (by dsimp only [a0d]; simp only [c5t]; omega) ((a3T (enc := eOp) hk2).2) ((a3T (enc := eOp) hk2).1) ?_
  simp only [a0i, a0h, SV.kill, CV.kill, kk, Nat.reduceBEq]
  refine z ?_
  refine a1j ?_
  iterate 2 refine z ?_
  refine a0j ?_
  iterate 4 refine z ?_
  refine ⟨k + 1, ?_, ?_, a0e ⟨rfl, rfl, rfl, rfl, trivial⟩ trivial ⟨rfl, trivial⟩ rfl⟩
  ·omega
  ·omega
 ·have d1 := c5q c1
  iterate 9 refine z ?_
  refine a0r (σ' := ⟨[(2, .one (.key 6))], [], [(6, some (a0d false (a0F (x))))]⟩) (a0e ⟨rfl, trivial⟩ trivial ⟨(congrArg (fun l : List (OpT) => some (some (KC.mk false 111 7 l.length (l.flatMap eOp)))) (List.take_of_length_le (by omega))), trivial⟩ rfl) ?_
  refine z ?_
  refine a1B (a0B rfl) ?_
  exact ⟨rfl, rfl⟩
theorem b8M {x : List a0I} (hb : a0s a0v x ≤ 1099511627776) : KFn Tryz.prog 53 [.one (.dv [] (a0k (x)))] (.one (.key 5)) [(5, some (a0d false (a0k (x))))] := by
 refine ⟨a0u Tryz.func53 rfl Tryz.ntmps53 Tryz.results53 rfl (fun C => ?_)⟩
 have hwl : a0s a0v x = x.length + wSum a0v x := rfl
 refine a0G (x := .tmp 0) (a0a rfl) fun f0 => ?_
 iterate 4 refine z ?_
 refine a5b (k := 5) hT rfl rfl rfl rfl rfl rfl rfl rfl ?_
 iterate 7 refine z ?_
 refine a0W (ι := Nat) (fun zz => ⟨[(0, .one (.dv [] (a0k (x)))), (2, .one .nil), (3, .one (.key 5)), (4, .one (.dv [] (.int .i64 ((zz : Int)))))], [], [(5, some (a0d false (.sl 89 3 ((x.take zz).length) ((x.take zz).flatMap a0U))))]⟩) (fun zz => zz ≤ x.length) (fun zz => x.length - zz) (0) ?_ (a0e ⟨rfl, rfl, rfl, rfl, trivial⟩ trivial ⟨rfl, trivial⟩ rfl) (fun zz hx => ?_)
 ·exact Nat.zero_le _
 obtain ⟨k, rfl⟩ : ∃ v, v = zz := ⟨_, rfl⟩
 replace hx : k ≤ x.length := hx
 have hw := fun h => a1T a0v x k h
 show Ok _ _ _ _ _ (⟨[(0, .one (.dv [] (a0k (x)))), (2, .one .nil), (3, .one (.key 5)), (4, .one (.dv [] (.int .i64 ((k : Int)))))], [], [(5, some (a0d false (.sl 89 3 ((x.take k).length) ((x.take k).flatMap a0U))))]⟩ : St)
 iterate 7 refine z ?_
 refine yQ rfl (fun c1 => ?_) fun c1 => ?_
 ·have d1 := c5p c1
  have hk2 : k < x.length := by omega
  obtain ⟨hw1, hw2⟩ := hw hk2
  iterate 4 refine z ?_
  refine a0j ?_
  iterate 5 refine z ?_
  refine zK 17000 Tryz.call51 ?_ (hf := a5e (x := (((x)).getD ((k : Int)).toNat default)) (by omega))
  refine a6n (k := 18) (js := [17030]) hT rfl rfl rfl rfl rfl rfl rfl rfl rfl (a0a rfl) rfl rfl (a0o (a0C rfl) (a0o (a1Y rfl) (a0o (a0C rfl) a1e rfl) rfl) rfl) (by decide) (by decide) rfl rfl ?_
  simp only [a0i, a0h, SV.kill, CV.kill, kk, Nat.reduceBEq]
  refine a4r (k := 5) (j := 18) (cs := (x.take (k + 1)).flatMap a0U) (n := (x.take (k + 1)).length) hT rfl rfl rfl rfl rfl rfl rfl (a0a rfl) rfl rfl rfl (a0a rfl) rfl rfl (by decide) (by dsimp only [a0d]; simp only [c5t]; omega) (by dsimp only [a0d]; simp only [c5t]; omega) ((a3T (enc := a0U) hk2).2) ((a3T (enc := a0U) hk2).1) ?_
  simp only [a0i, a0h, SV.kill, CV.kill, kk, Nat.reduceBEq]
  refine z ?_
  refine a1j ?_
  iterate 2 refine z ?_
  refine a0j ?_
  iterate 4 refine z ?_
  refine ⟨k + 1, ?_, ?_, a0e ⟨rfl, rfl, rfl, rfl, trivial⟩ trivial ⟨rfl, trivial⟩ rfl⟩
  ·omega
  ·omega
 ·have d1 := c5q c1
  iterate 9 refine z ?_
  refine a0r (σ' := ⟨[(2, .one (.key 5))], [], [(5, some (a0d false (a0k (x))))]⟩) (a0e ⟨rfl, trivial⟩ trivial ⟨(congrArg (fun l : List (a0I) => some (some (KC.mk false 89 3 l.length (l.flatMap a0U)))) (List.take_of_length_le (by omega))), trivial⟩ rfl) ?_
  refine z ?_
  refine a1B (a0B rfl) ?_
  exact ⟨rfl, rfl⟩
theorem c0O {x : TxT} (hb : wTx x ≤ 1099511627776) : KFn Tryz.prog 67 [.agg [(.dv [] (.int .i64 (x.1))), (.dv [] (a0F (x.2.1))), (.dv [] (.int .i64 (x.2.2.1))), (.dv [] (.int .i64 (x.2.2.2.1))), (.dv [] (a0k (x.2.2.2.2)))]] (.agg [(.dv [] (.int .i64 (x.1))), (.key 800), (.dv [] (.int .i64 (x.2.2.1))), (.dv [] (.int .i64 (x.2.2.2.1))), (.key 31)]) [(800, some (a0d false (a0F (x.2.1)))), (31, some (a0d false (a0k (x.2.2.2.2))))] := by
 refine ⟨a0u Tryz.func67 rfl Tryz.ntmps67 Tryz.results67 rfl (fun C => ?_)⟩
 have hwt : wTx x = a0s wOp x.2.1 + a0s a0v x.2.2.2.2 := rfl
 have hwl : a0s a0v x.2.2.2.2 = x.2.2.2.2.length + wSum a0v x.2.2.2.2 := rfl
 refine yF 0 0 rfl rfl fun f0_0 => ?_
 refine yF 0 1 rfl rfl fun f0_1 => ?_
 refine yF 0 2 rfl rfl fun f0_2 => ?_
 refine yF 0 3 rfl rfl fun f0_3 => ?_
 refine yF 0 4 rfl rfl fun f0_4 => ?_
 iterate 4 refine z ?_
 refine a0p ?_
 refine a1o (oB := [1, 2]) (oK := []) (by kernel_rfl) rfl rfl ?_
 refine zD 0 ?_
 refine zD 1 ?_
 refine zD 2 ?_
 refine zD 3 ?_
 refine zD 5 ?_
 refine zD 6 ?_
 refine zD 7 ?_
 refine zD 8 ?_
 refine a5q (A := [(10, 3, 63, _)]) hT ⟨⟨_, _, rfl⟩, rfl, trivial⟩ ?_
 refine a4J 794 4 rfl (by kernel_rfl) rfl rfl rfl (vok hT ⟨⟨_, _, rfl⟩, rfl, trivial⟩ (by kernel_rfl) (by kernel_rfl)) (vok hT ⟨⟨_, _, rfl⟩, rfl, trivial⟩ (by kernel_rfl) (by kernel_rfl)) rfl Tryz.call100 (c5b (x := x.2.1) (by omega)) (a0f (a0a rfl) (a0H a0b) a0n) rfl rfl rfl rfl rfl ?_
 refine a5U 9 rfl (by kernel_rfl) rfl rfl rfl (vok hT ⟨⟨_, _, rfl⟩, rfl, trivial⟩ (by kernel_rfl) (by kernel_rfl)) (vok hT ⟨⟨_, _, rfl⟩, rfl, trivial⟩ (by kernel_rfl) (by kernel_rfl)) (a2s hT hB rfl rfl rfl (a1x (a0a rfl) rfl rfl rfl rfl rfl (a1x (a0a rfl) rfl rfl rfl rfl rfl (a1x (a0a rfl) rfl rfl rfl rfl rfl (a1x (a0a rfl) rfl rfl rfl rfl rfl a2o))))) rfl rfl rfl rfl ?_
 refine a5C (vok hT ⟨⟨_, _, rfl⟩, rfl, trivial⟩ (by kernel_rfl) (by kernel_rfl)) rfl rfl (by kernel_rfl) ?_
 dsimp only [a3j, a2Z]
 refine b3g 11 rfl (by kernel_rfl) rfl (by kernel_rfl) (a4E hT rfl rfl rfl (a0a rfl) (a0a rfl) rfl rfl rfl rfl rfl rfl) (by kernel_rfl) ?_
 refine z ?_
 refine a0p ?_
 refine a0p ?_
 refine a0r (a6X 31 (b := 3) (i := 4) (e := 89) (sz := 3) rfl rfl rfl rfl rfl) ?_
 simp only [a0i, a0h, SV.kill, CV.kill, kk, Nat.reduceBEq]
 refine a0j ?_
 iterate 6 refine z ?_
 refine a0W (ι := Nat) (fun zz => ⟨[(2, .box 2 0), (3, .box 3 0), (17, .one (.dv [] (a0k (x.2.2.2.2)))), (18, .one (.dv [] (.int .i64 ((((x.2.2.2.2)).length : Int))))), (19, .one (.dv [] (.int .i64 ((zz : Int)))))], [(2, 63, [(.dv [] (.int .i64 (0))), .nil, (.dv [] (.int .i64 (0))), (.dv [] (.int .i64 (0))), .nil]), (3, 63, [(.dv [] (.int .i64 (x.1))), (.key 800), (.dv [] (.int .i64 (x.2.2.1))), (.dv [] (.int .i64 (x.2.2.2.1))), (.key 31)])], [(31, some (a0d false (.sl 89 3 ((x.2.2.2.2.take zz).length) ((x.2.2.2.2.take zz).flatMap a0U)))), (800, some (a0d false (a0F ((x.2.1)))))]⟩) (fun zz => zz ≤ x.2.2.2.2.length) (fun zz => x.2.2.2.2.length - zz) (0) ?_ (a0e ⟨rfl, rfl, rfl, rfl, rfl, trivial⟩ ⟨rfl, rfl, trivial⟩ ⟨rfl, rfl, trivial⟩ rfl) (fun zz hx => ?_)
 ·exact Nat.zero_le _
 obtain ⟨k, rfl⟩ : ∃ v, v = zz := ⟨_, rfl⟩
 replace hx : k ≤ x.2.2.2.2.length := hx
 have hw := fun h => a1T a0v x.2.2.2.2 k h
 show Ok _ _ _ _ _ (⟨[(2, .box 2 0), (3, .box 3 0), (17, .one (.dv [] (a0k (x.2.2.2.2)))), (18, .one (.dv [] (.int .i64 ((((x.2.2.2.2)).length : Int))))), (19, .one (.dv [] (.int .i64 ((k : Int)))))], [(2, 63, [(.dv [] (.int .i64 (0))), .nil, (.dv [] (.int .i64 (0))), (.dv [] (.int .i64 (0))), .nil]), (3, 63, [(.dv [] (.int .i64 (x.1))), (.key 800), (.dv [] (.int .i64 (x.2.2.1))), (.dv [] (.int .i64 (x.2.2.2.1))), (.key 31)])], [(31, some (a0d false (.sl 89 3 ((x.2.2.2.2.take k).length) ((x.2.2.2.2.take k).flatMap a0U)))), (800, some (a0d false (a0F ((x.2.1)))))]⟩ : St)
 iterate 3 refine z ?_
 refine a0p ?_
 refine yQ rfl (fun c1 => ?_) fun c1 => ?_
 ·have d1 := c5p c1
  have hk2 : k < x.2.2.2.2.length := by omega
  obtain ⟨hw1, hw2⟩ := hw hk2
  iterate 10 refine z ?_
  refine a4G [0, 1, 2, 3, 4] (oB := [2, 3, 5]) (oK := [31, 800]) (by kernel_rfl) rfl rfl ?_
  refine zD 0 ?_
  refine zD 1 ?_
  refine zD 2 ?_
  refine a3L 26000 3 rfl (by kernel_rfl) rfl rfl rfl Tryz.call66 (a5c (x := (((x.2.2.2.2)).getD ((k : Int)).toNat default)) (by omega)) (a0f (a0a rfl) (a0l (a0c a0b (a0c a0b (a0c a0b a0m)))) a0n) rfl rfl rfl rfl rfl ?_
  refine a6m (k := 27) (js := [26030]) 4 hT rfl (by kernel_rfl) rfl rfl rfl rfl rfl rfl rfl rfl rfl (a0a rfl) rfl rfl (a0o (a0C rfl) (a0o (a1Y rfl) (a0o (a0C rfl) a1e rfl) rfl) rfl) (by decide) (by decide) rfl rfl (by decide) ?_
  simp only [a0i, a0h, SV.kill, CV.kill, kk, Nat.reduceBEq]
  refine a3c [5, 6, 7] rfl rfl (by kernel_rfl) ?_
  refine a4r (k := 31) (j := 27) (cs := (x.2.2.2.2.take (k + 1)).flatMap a0U) (n := (x.2.2.2.2.take (k + 1)).length) hT rfl rfl rfl rfl rfl rfl rfl (a0a rfl) rfl rfl rfl (a0a rfl) rfl rfl (by decide) (by dsimp only [a0d]; simp only [c5t]; omega) (by dsimp only [a0d]; simp only [c5t]; omega) ((a3T (enc := a0U) hk2).2) ((a3T (enc := a0U) hk2).1) ?_
  simp only [a0i, a0h, SV.kill, CV.kill, kk, Nat.reduceBEq]
  iterate 2 refine z ?_
  refine a1j ?_
  iterate 2 refine z ?_
  refine a0j ?_
  iterate 3 refine z ?_
  refine ⟨k + 1, ?_, ?_, a0e ⟨rfl, rfl, rfl, rfl, rfl, trivial⟩ ⟨rfl, rfl, trivial⟩ ⟨rfl, rfl, trivial⟩ rfl⟩
  ·omega
  ·omega
 ·have d1 := c5q c1
  iterate 9 refine z ?_
  refine a0r (σ' := ⟨[(2, .box 2 0)], [(2, 63, [(.dv [] (.int .i64 (x.1))), (.key 800), (.dv [] (.int .i64 (x.2.2.1))), (.dv [] (.int .i64 (x.2.2.2.1))), (.key 31)])], [(800, some (a0d false (a0F (x.2.1)))), (31, some (a0d false (a0k (x.2.2.2.2))))]⟩) (a0e ⟨rfl, trivial⟩ ⟨rfl, trivial⟩ ⟨rfl, (congrArg (fun l : List (a0I) => some (some (KC.mk false 89 3 l.length (l.flatMap a0U)))) (List.take_of_length_le (by omega))), trivial⟩ rfl) ?_
  refine z ?_
  refine a1B (a0K hT rfl rfl rfl rfl) ?_
  exact ⟨rfl, rfl⟩
theorem b3j {x : List TxT} (hb : a0s wTx x ≤ 1099511627776) : KFn Tryz.prog 34 [.agg [(.dv [] (a0Z (x)))]] (.agg [(.key 31)]) [(31, some (a0d false (a0Z (x))))] := by
 refine ⟨a0u Tryz.func34 rfl Tryz.ntmps34 Tryz.results34 rfl (fun C => ?_)⟩
 have hwl : a0s wTx x = x.length + wSum wTx x := rfl
 refine yF 0 0 rfl rfl fun f0_0 => ?_
 iterate 5 refine z ?_
 refine yO rfl rfl (a2s hT hB rfl rfl rfl a2o) rfl ?_
 iterate 3 refine z ?_
 refine a0p ?_
 refine a0p ?_
 refine a0r (a6X 31 (b := 3) (i := 0) (e := 63) (sz := 5) rfl rfl rfl rfl rfl) ?_
 simp only [a0i, a0h, SV.kill, CV.kill, kk, Nat.reduceBEq]
 refine a0j ?_
 iterate 6 refine z ?_
 refine a0W (ι := Nat) (fun zz => ⟨[(2, .box 2 0), (3, .box 3 0), (8, .one (.dv [] (a0Z (x)))), (9, .one (.dv [] (.int .i64 ((((x)).length : Int))))), (10, .one (.dv [] (.int .i64 ((zz : Int)))))], [(2, 38, [.nil]), (3, 38, [(.key 31)])], [(31, some (a0d false (.sl 63 5 ((x.take zz).length) ((x.take zz).flatMap eTx))))]⟩) (fun zz => zz ≤ x.length) (fun zz => x.length - zz) (0) ?_ (a0e ⟨rfl, rfl, rfl, rfl, rfl, trivial⟩ ⟨rfl, rfl, trivial⟩ ⟨rfl, trivial⟩ rfl) (fun zz hx => ?_)
 ·exact Nat.zero_le _
 obtain ⟨k, rfl⟩ : ∃ v, v = zz := ⟨_, rfl⟩
 replace hx : k ≤ x.length := hx
 have hw := fun h => a1T wTx x k h
 show Ok _ _ _ _ _ (⟨[(2, .box 2 0), (3, .box 3 0), (8, .one (.dv [] (a0Z (x)))), (9, .one (.dv [] (.int .i64 ((((x)).length : Int))))), (10, .one (.dv [] (.int .i64 ((k : Int)))))], [(2, 38, [.nil]), (3, 38, [(.key 31)])], [(31, some (a0d false (.sl 63 5 ((x.take k).length) ((x.take k).flatMap eTx))))]⟩ : St)
 iterate 3 refine z ?_
 refine a0p ?_
 refine yQ rfl (fun c1 => ?_) fun c1 => ?_
 ·have d1 := c5p c1
  have hk2 : k < x.length := by omega
  obtain ⟨hw1, hw2⟩ := hw hk2
  iterate 10 refine z ?_
  refine a4G [0, 1, 2, 3, 4] (oB := [2, 3, 5]) (oK := [31]) (by kernel_rfl) rfl rfl ?_
  refine zD 0 ?_
  refine zD 1 ?_
  refine zD 2 ?_
  refine a3L 17000 3 rfl (by kernel_rfl) rfl rfl rfl Tryz.call67 (c0O (x := (((x)).getD ((k : Int)).toNat default)) (by omega)) (a0f (a0a rfl) (a0l (a0c a0b (a0c a0b (a0c a0b (a0c a0b (a0c a0b a0m)))))) a0n) rfl rfl rfl rfl rfl ?_
  refine a6m (k := 18) (js := [17800, 17031]) 4 hT rfl (by kernel_rfl) rfl rfl rfl rfl rfl rfl rfl rfl rfl (a0a rfl) rfl rfl (a0o (a0C rfl) (a0o (a1Y rfl) (a0o (a0C rfl) (a0o (a0C rfl) (a0o (a1Y rfl) a1e rfl) rfl) rfl) rfl) rfl) (by decide) (by decide) rfl rfl (by decide) ?_
  simp only [a0i, a0h, SV.kill, CV.kill, kk, Nat.reduceBEq]
  refine a3c [5, 6, 7] rfl rfl (by kernel_rfl) ?_
  refine a4r (k := 31) (j := 18) (cs := (x.take (k + 1)).flatMap eTx) (n := (x.take (k + 1)).length) hT rfl rfl rfl rfl rfl rfl rfl (a0a rfl) rfl rfl rfl (a0a rfl) rfl rfl (by decide) (by dsimp only [a0d]; simp only [c5t]; omega) (by dsimp only [a0d]; simp only [c5t]; omega) ((a3T (enc := eTx) hk2).2) ((a3T (enc := eTx) hk2).1) ?_
  simp only [a0i, a0h, SV.kill, CV.kill, kk, Nat.reduceBEq]
  iterate 2 refine z ?_
  refine a1j ?_
  iterate 2 refine z ?_
  refine a0j ?_
  iterate 3 refine z ?_
  refine ⟨k + 1, ?_, ?_, a0e ⟨rfl, rfl, rfl, rfl, rfl, trivial⟩ ⟨rfl, rfl, trivial⟩ ⟨rfl, trivial⟩ rfl⟩
  ·omega
  ·omega
 ·have d1 := c5q c1
  iterate 9 refine z ?_
  refine a0r (σ' := ⟨[(2, .box 2 0)], [(2, 38, [(.key 31)])], [(31, some (a0d false (a0Z (x))))]⟩) (a0e ⟨rfl, trivial⟩ ⟨rfl, trivial⟩ ⟨(congrArg (fun l : List (TxT) => some (some (KC.mk false 63 5 l.length (l.flatMap eTx)))) (List.take_of_length_le (by omega))), trivial⟩ rfl) ?_
  refine z ?_
  refine a1B (a0K hT rfl rfl rfl rfl) ?_
  exact ⟨rfl, rfl⟩
theorem b2R {x : List TxT} (hb : a0s wTx x ≤ 1099511627776) : KFn Tryz.prog 23 [.agg [(.dv [] (a0Z (x)))]] (.agg [(.key 31)]) [(31, some (a0d false (a0Z (x))))] := by
 refine ⟨a0u Tryz.func23 rfl Tryz.ntmps23 Tryz.results23 rfl (fun C => ?_)⟩
 have hwl : a0s wTx x = x.length + wSum wTx x := rfl
 refine yF 0 0 rfl rfl fun f0_0 => ?_
 iterate 5 refine z ?_
 refine yO rfl rfl (a2s hT hB rfl rfl rfl a2o) rfl ?_
 iterate 3 refine z ?_
 refine a0p ?_
 refine a0p ?_
 refine a0r (a6X 31 (b := 3) (i := 0) (e := 63) (sz := 5) rfl rfl rfl rfl rfl) ?_
 simp only [a0i, a0h, SV.kill, CV.kill, kk, Nat.reduceBEq]
 refine a0j ?_
 iterate 3 refine z ?_
 refine a0W (ι := Nat) (fun zz => ⟨[(1, .box 1 0), (2, .box 2 0), (3, .box 3 0), (4, .one (.dv [] (.int .i64 ((zz : Int)))))], [(1, 38, [(.dv [] (a0Z (x)))]), (2, 38, [.nil]), (3, 38, [(.key 31)])], [(31, some (a0d false (.sl 63 5 ((x.take zz).length) ((x.take zz).flatMap eTx))))]⟩) (fun zz => zz ≤ x.length) (fun zz => x.length - zz) (0) ?_ (a0e ⟨rfl, rfl, rfl, rfl, trivial⟩ ⟨rfl, rfl, rfl, trivial⟩ ⟨rfl, trivial⟩ rfl) (fun zz hx => ?_)
 ·exact Nat.zero_le _
 obtain ⟨k, rfl⟩ : ∃ v, v = zz := ⟨_, rfl⟩
 replace hx : k ≤ x.length := hx
 have hw := fun h => a1T wTx x k h
 show Ok _ _ _ _ _ (⟨[(1, .box 1 0), (2, .box 2 0), (3, .box 3 0), (4, .one (.dv [] (.int .i64 ((k : Int)))))], [(1, 38, [(.dv [] (a0Z (x)))]), (2, 38, [.nil]), (3, 38, [(.key 31)])], [(31, some (a0d false (.sl 63 5 ((x.take k).length) ((x.take k).flatMap eTx))))]⟩ : St)
 iterate 8 refine z ?_
 refine yQ rfl (fun c1 => ?_) fun c1 => ?_
 ·have d1 := c5p c1
  have hk2 : k < x.length := by omega
  obtain ⟨hw1, hw2⟩ := hw hk2
  have hwt : wTx (x.getD (k : Int).toNat default) = a0s wOp (x.getD (k : Int).toNat default).2.1 + a0s a0v (x.getD (k : Int).toNat default).2.2.2.2 := rfl
  iterate 20 refine z ?_
  refine zK 25000 Tryz.call52 ?_ (hf := c4k (x := (((x)).getD ((k : Int)).toNat default).2.1) (by omega))
  iterate 10 refine z ?_
  refine zK 33000 Tryz.call53 ?_ (hf := b8M (x := (((x)).getD ((k : Int)).toNat default).2.2.2.2) (by omega))
  iterate 3 refine z ?_
  refine a0j ?_
  iterate 3 refine z ?_
  refine a6n (k := 38) (js := [25006, 33005]) hT rfl rfl rfl rfl rfl rfl rfl rfl rfl (a0a rfl) rfl rfl (a0o (a0C rfl) (a0o (a1Y rfl) (a0o (a0C rfl) (a0o (a0C rfl) (a0o (a1Y rfl) a1e rfl) rfl) rfl) rfl) rfl) (by decide) (by decide) rfl rfl ?_
  simp only [a0i, a0h, SV.kill, CV.kill, kk, Nat.reduceBEq]
  refine a4r (k := 31) (j := 38) (cs := (x.take (k + 1)).flatMap eTx) (n := (x.take (k + 1)).length) hT rfl rfl rfl rfl rfl rfl rfl (a0a rfl) rfl rfl rfl (a0a rfl) rfl rfl (by decide) (by dsimp only [a0d]; simp only [c5t]; omega) (by dsimp only [a0d]; simp only [c5t]; omega) ((a3T (enc := eTx) hk2).2) ((a3T (enc := eTx) hk2).1) ?_
  simp only [a0i, a0h, SV.kill, CV.kill, kk, Nat.reduceBEq]
  iterate 2 refine z ?_
  refine a1j ?_
  iterate 2 refine z ?_
  refine a0j ?_
  iterate 4 refine z ?_
  refine ⟨k + 1, ?_, ?_, a0e ⟨rfl, rfl, rfl, rfl, trivial⟩ ⟨rfl, rfl, rfl, trivial⟩ ⟨rfl, trivial⟩ rfl⟩
  ·omega
  ·omega
 ·have d1 := c5q c1
  iterate 9 refine z ?_
  refine a0r (σ' := ⟨[(2, .box 2 0)], [(2, 38, [(.key 31)])], [(31, some (a0d false (a0Z (x))))]⟩) (a0e ⟨rfl, trivial⟩ ⟨rfl, trivial⟩ ⟨(congrArg (fun l : List (TxT) => some (some (KC.mk false 63 5 l.length (l.flatMap eTx)))) (List.take_of_length_le (by omega))), trivial⟩ rfl) ?_
  refine z ?_
  refine a1B (a0K hT rfl rfl rfl rfl) ?_
  exact ⟨rfl, rfl⟩
theorem a8r {x : DbT} (hb : a1r x ≤ 1099511627776) : KFn Tryz.prog 33 [.agg [(.dv [] (.str (x.1))), (.dv [] (.int .i64 (x.2.1))), (.dv [] (a0k (x.2.2.1))), (.dv [] (a0A (x.2.2.2)))]] (.agg [(.dv [] (.str (x.1))), (.dv [] (.int .i64 (x.2.1))), (.key 31), (.key 900)]) [(31, some (a0d false (a0k (x.2.2.1)))), (900, some (a0d false (a0A (x.2.2.2))))] := by
 refine ⟨a0u Tryz.func33 rfl Tryz.ntmps33 Tryz.results33 rfl (fun C => ?_)⟩
 have hwd : a1r x = x.1.size + a0s a0v x.2.2.1 + a0s a1m x.2.2.2 := rfl
 have hwl : a0s a0v x.2.2.1 = x.2.2.1.length + wSum a0v x.2.2.1 := rfl
 have hwi : a0s a1m x.2.2.2 = x.2.2.2.length + wSum a1m x.2.2.2 := rfl
 refine yF 0 0 rfl rfl fun f0_0 => ?_
 refine yF 0 1 rfl rfl fun f0_1 => ?_
 refine yF 0 2 rfl rfl fun f0_2 => ?_
 refine yF 0 3 rfl rfl fun f0_3 => ?_
 iterate 4 refine z ?_
 refine a7H (σ' := ⟨[(1, .box 1 0), (2, .box 2 0), (3, .box 3 0)], [(1, 35, [(.dv [] (.str (x.1))), (.dv [] (.int .i64 (x.2.1))), (.dv [] (a0k (x.2.2.1))), (.dv [] (a0A (x.2.2.2)))]), (2, 35, [(.dv [] (.str (ByteArray.empty))), (.dv [] (.int .i64 (0))), .nil, .nil]), (3, 35, [(.dv [] (.str (x.1))), (.dv [] (.int .i64 (x.2.1))), .nil, (.key 900)])], [(900, some (a0d false (.sl 95 2 ((x.2.2.2).length) ((x.2.2.2).flatMap a1y))))]⟩) ?_ ?_
 ·refine a4G [0, 1, 2, 3, 4, 5, 6, 7, 8, 9] (oB := [1, 2]) (oK := []) (by kernel_rfl) rfl rfl ?_
  refine b0W ?_
  refine zN 0 ?_
  refine zN 1 ?_
  refine zN 2 ?_
  refine zN 3 ?_
  refine zN 5 ?_
  refine zN 6 ?_
  refine a1J 4 [9] (by kernel_rfl) ⟨?_, ?_, trivial⟩
  ·refine a6v (k := 900) 4 hT rfl rfl rfl rfl rfl rfl rfl rfl rfl rfl rfl rfl ?_
   refine a1J 7 [9] (by kernel_rfl) ⟨?_, ?_, trivial⟩
   ·refine a2T (k := 900) (cs := (x.2.2.2).flatMap a1y) (n := (x.2.2.2).length) 7 hT rfl rfl rfl rfl rfl rfl rfl rfl (a0a rfl) rfl rfl rfl (a0a rfl) (a3e (fun _ => rfl) _) (by first | (dsimp only [a0d]; omega) | omega) (by first | (dsimp only [a0d]; omega) | omega) (Nat.zero_add _) (rfl) rfl rfl ?_
    simp only [a0i, a0h, SV.kill, CV.kill, kk, Nat.reduceBEq]
    refine a4y 8 rfl (by kernel_rfl) rfl rfl (a2s hT hB rfl rfl rfl (a1x (a0a rfl) rfl rfl rfl rfl rfl (a1x (a0a rfl) rfl rfl rfl rfl rfl (a1x (a0a rfl) rfl rfl rfl rfl rfl a2o)))) rfl rfl rfl rfl ?_
    refine a1J 9 [] (by kernel_rfl) ⟨?_, trivial⟩
    ·refine a7T 9 hT rfl rfl rfl rfl rfl rfl rfl rfl rfl rfl ?_
     refine a1J 10 [] (by kernel_rfl) ⟨?_, trivial⟩
     ·refine a5Y 10 rfl rfl (by kernel_rfl) (a4E hT rfl rfl rfl (a0a rfl) (a0a rfl) rfl rfl rfl rfl rfl rfl) (by kernel_rfl) ?_
      exact a3W (a0e ⟨rfl, rfl, rfl, trivial⟩ ⟨rfl, rfl, rfl, trivial⟩ ⟨rfl, trivial⟩ rfl)
   ·refine a7T 9 hT rfl rfl rfl rfl rfl rfl rfl rfl rfl rfl ?_
    refine a1J 7 [] (by kernel_rfl) ⟨?_, trivial⟩
    ·refine a2T (k := 900) (cs := (x.2.2.2).flatMap a1y) (n := (x.2.2.2).length) 7 hT rfl rfl rfl rfl rfl rfl rfl rfl (a0a rfl) rfl rfl rfl (a0a rfl) (a3e (fun _ => rfl) _) (by first | (dsimp only [a0d]; omega) | omega) (by first | (dsimp only [a0d]; omega) | omega) (Nat.zero_add _) (rfl) rfl rfl ?_
     simp only [a0i, a0h, SV.kill, CV.kill, kk, Nat.reduceBEq]
     refine a4y 8 rfl (by kernel_rfl) rfl rfl (a2s hT hB rfl rfl rfl (a1x (a0a rfl) rfl rfl rfl rfl rfl (a1x (a0a rfl) rfl rfl rfl rfl rfl (a1x (a0a rfl) rfl rfl rfl rfl rfl a2o)))) rfl rfl rfl rfl ?_
     refine a1J 10 [] (by kernel_rfl) ⟨?_, trivial⟩
     ·refine a5Y 10 rfl rfl (by kernel_rfl) (a4E hT rfl rfl rfl (a0a rfl) (a0a rfl) rfl rfl rfl rfl rfl rfl) (by kernel_rfl) ?_
      exact a3W (a0e ⟨rfl, rfl, rfl, trivial⟩ ⟨rfl, rfl, rfl, trivial⟩ ⟨rfl, trivial⟩ rfl)
  ·refine a7T 9 hT rfl rfl rfl rfl rfl rfl rfl rfl rfl rfl ?_
   refine a1J 4 [] (by kernel_rfl) ⟨?_, trivial⟩
   ·refine a6v (k := 900) 4 hT rfl rfl rfl rfl rfl rfl rfl rfl rfl rfl rfl rfl ?_
    refine a1J 7 [] (by kernel_rfl) ⟨?_, trivial⟩
    ·refine a2T (k := 900) (cs := (x.2.2.2).flatMap a1y) (n := (x.2.2.2).length) 7 hT rfl rfl rfl rfl rfl rfl rfl rfl (a0a rfl) rfl rfl rfl (a0a rfl) (a3e (fun _ => rfl) _) (by first | (dsimp only [a0d]; omega) | omega) (by first | (dsimp only [a0d]; omega) | omega) (Nat.zero_add _) (rfl) rfl rfl ?_
     simp only [a0i, a0h, SV.kill, CV.kill, kk, Nat.reduceBEq]
     refine a4y 8 rfl (by kernel_rfl) rfl rfl (a2s hT hB rfl rfl rfl (a1x (a0a rfl) rfl rfl rfl rfl rfl (a1x (a0a rfl) rfl rfl rfl rfl rfl (a1x (a0a rfl) rfl rfl rfl rfl rfl a2o)))) rfl rfl rfl rfl ?_
     refine a1J 10 [] (by kernel_rfl) ⟨?_, trivial⟩
     ·refine a5Y 10 rfl rfl (by kernel_rfl) (a4E hT rfl rfl rfl (a0a rfl) (a0a rfl) rfl rfl rfl rfl rfl rfl) (by kernel_rfl) ?_
      exact a3W (a0e ⟨rfl, rfl, rfl, trivial⟩ ⟨rfl, rfl, rfl, trivial⟩ ⟨rfl, trivial⟩ rfl)
 refine a0p ?_
 refine a0p ?_
 refine a0r (a6X 31 (b := 3) (i := 2) (e := 89) (sz := 3) rfl rfl rfl rfl rfl) ?_
 simp only [a0i, a0h, SV.kill, CV.kill, kk, Nat.reduceBEq]
 refine a0j ?_
 iterate 6 refine z ?_
 refine a0W (ι := Nat) (fun zz => ⟨[(2, .box 2 0), (3, .box 3 0), (16, .one (.dv [] (a0k (x.2.2.1)))), (17, .one (.dv [] (.int .i64 ((((x.2.2.1)).length : Int))))), (18, .one (.dv [] (.int .i64 ((zz : Int)))))], [(1, 35, [(.dv [] (.str (x.1))), (.dv [] (.int .i64 (x.2.1))), (.dv [] (a0k (x.2.2.1))), (.dv [] (a0A (x.2.2.2)))]), (2, 35, [(.dv [] (.str (ByteArray.empty))), (.dv [] (.int .i64 (0))), .nil, .nil]), (3, 35, [(.dv [] (.str (x.1))), (.dv [] (.int .i64 (x.2.1))), (.key 31), (.key 900)])], [(31, some (a0d false (.sl 89 3 ((x.2.2.1.take zz).length) ((x.2.2.1.take zz).flatMap a0U)))), (900, some (a0d false (.sl 95 2 ((x.2.2.2).length) ((x.2.2.2).flatMap a1y))))]⟩) (fun zz => zz ≤ x.2.2.1.length) (fun zz => x.2.2.1.length - zz) (0) ?_ (a0e ⟨rfl, rfl, rfl, rfl, rfl, trivial⟩ ⟨rfl, rfl, rfl, trivial⟩ ⟨rfl, rfl, trivial⟩ rfl) (fun zz hx => ?_)
 ·exact Nat.zero_le _
 obtain ⟨k, rfl⟩ : ∃ v, v = zz := ⟨_, rfl⟩
 replace hx : k ≤ x.2.2.1.length := hx
 have hw := fun h => a1T a0v x.2.2.1 k h
 show Ok _ _ _ _ _ (⟨[(2, .box 2 0), (3, .box 3 0), (16, .one (.dv [] (a0k (x.2.2.1)))), (17, .one (.dv [] (.int .i64 ((((x.2.2.1)).length : Int))))), (18, .one (.dv [] (.int .i64 ((k : Int)))))], [(1, 35, [(.dv [] (.str (x.1))), (.dv [] (.int .i64 (x.2.1))), (.dv [] (a0k (x.2.2.1))), (.dv [] (a0A (x.2.2.2)))]), (2, 35, [(.dv [] (.str (ByteArray.empty))), (.dv [] (.int .i64 (0))), .nil, .nil]), (3, 35, [(.dv [] (.str (x.1))), (.dv [] (.int .i64 (x.2.1))), (.key 31), (.key 900)])], [(31, some (a0d false (.sl 89 3 ((x.2.2.1.take k).length) ((x.2.2.1.take k).flatMap a0U)))), (900, some (a0d false (.sl 95 2 ((x.2.2.2).length) ((x.2.2.2).flatMap a1y))))]⟩ : St)
 iterate 3 refine z ?_
 refine a0p ?_
 refine yQ rfl (fun c1 => ?_) fun c1 => ?_
 ·have d1 := c5p c1
  have hk2 : k < x.2.2.1.length := by omega
  obtain ⟨hw1, hw2⟩ := hw hk2
  iterate 10 refine z ?_
  refine a4G [0, 1, 2, 3, 4] (oB := [1, 2, 3, 5]) (oK := [31, 900]) (by kernel_rfl) rfl rfl ?_
  refine zD 0 ?_
  refine zD 1 ?_
  refine zD 2 ?_
  refine a3L 25000 3 rfl (by kernel_rfl) rfl rfl rfl Tryz.call66 (a5c (x := (((x.2.2.1)).getD ((k : Int)).toNat default)) (by omega)) (a0f (a0a rfl) (a0l (a0c a0b (a0c a0b (a0c a0b a0m)))) a0n) rfl rfl rfl rfl rfl ?_
  refine a6m (k := 26) (js := [25030]) 4 hT rfl (by kernel_rfl) rfl rfl rfl rfl rfl rfl rfl rfl rfl (a0a rfl) rfl rfl (a0o (a0C rfl) (a0o (a1Y rfl) (a0o (a0C rfl) a1e rfl) rfl) rfl) (by decide) (by decide) rfl rfl (by decide) ?_
  simp only [a0i, a0h, SV.kill, CV.kill, kk, Nat.reduceBEq]
  refine a3c [5, 6, 7] rfl rfl (by kernel_rfl) ?_
  refine a4r (k := 31) (j := 26) (cs := (x.2.2.1.take (k + 1)).flatMap a0U) (n := (x.2.2.1.take (k + 1)).length) hT rfl rfl rfl rfl rfl rfl rfl (a0a rfl) rfl rfl rfl (a0a rfl) rfl rfl (by decide) (by dsimp only [a0d]; simp only [c5t]; omega) (by dsimp only [a0d]; simp only [c5t]; omega) ((a3T (enc := a0U) hk2).2) ((a3T (enc := a0U) hk2).1) ?_
  simp only [a0i, a0h, SV.kill, CV.kill, kk, Nat.reduceBEq]
  iterate 2 refine z ?_
  refine a1j ?_
  iterate 2 refine z ?_
  refine a0j ?_
  iterate 3 refine z ?_
  refine ⟨k + 1, ?_, ?_, a0e ⟨rfl, rfl, rfl, rfl, rfl, trivial⟩ ⟨rfl, rfl, rfl, trivial⟩ ⟨rfl, rfl, trivial⟩ rfl⟩
  ·omega
  ·omega
 ·have d1 := c5q c1
  iterate 9 refine z ?_
  refine a0r (σ' := ⟨[(2, .box 2 0)], [(2, 35, [(.dv [] (.str (x.1))), (.dv [] (.int .i64 (x.2.1))), (.key 31), (.key 900)])], [(31, some (a0d false (a0k (x.2.2.1)))), (900, some (a0d false (a0A (x.2.2.2))))]⟩) (a0e ⟨rfl, trivial⟩ ⟨rfl, trivial⟩ ⟨(congrArg (fun l : List (a0I) => some (some (KC.mk false 89 3 l.length (l.flatMap a0U)))) (List.take_of_length_le (by omega))), rfl, trivial⟩ rfl) ?_
  refine z ?_
  refine a1B (a0K hT rfl rfl rfl rfl) ?_
  exact ⟨rfl, rfl⟩
theorem a8a {x : DbT} (hb : a1r x ≤ 1099511627776) : KFn Tryz.prog 22 [.agg [(.dv [] (.str (x.1))), (.dv [] (.int .i64 (x.2.1))), (.dv [] (a0k (x.2.2.1))), (.dv [] (a0A (x.2.2.2)))]] (.agg [(.dv [] (.str (x.1))), (.dv [] (.int .i64 (x.2.1))), (.key 31), (.key 900)]) [(31, some (a0d false (a0k (x.2.2.1)))), (900, some (a0d false (a0A (x.2.2.2))))] := by
 refine ⟨a0u Tryz.func22 rfl Tryz.ntmps22 Tryz.results22 rfl (fun C => ?_)⟩
 have hwd : a1r x = x.1.size + a0s a0v x.2.2.1 + a0s a1m x.2.2.2 := rfl
 have hwl : a0s a0v x.2.2.1 = x.2.2.1.length + wSum a0v x.2.2.1 := rfl
 have hwi : a0s a1m x.2.2.2 = x.2.2.2.length + wSum a1m x.2.2.2 := rfl
 refine yF 0 0 rfl rfl fun f0_0 => ?_
 refine yF 0 1 rfl rfl fun f0_1 => ?_
 refine yF 0 2 rfl rfl fun f0_2 => ?_
 refine yF 0 3 rfl rfl fun f0_3 => ?_
 iterate 4 refine z ?_
 refine a7H (σ' := ⟨[(1, .box 1 0), (2, .box 2 0), (3, .box 3 0)], [(1, 35, [(.dv [] (.str (x.1))), (.dv [] (.int .i64 (x.2.1))), (.dv [] (a0k (x.2.2.1))), (.dv [] (a0A (x.2.2.2)))]), (2, 35, [(.dv [] (.str (ByteArray.empty))), (.dv [] (.int .i64 (0))), .nil, .nil]), (3, 35, [(.dv [] (.str (x.1))), (.dv [] (.int .i64 (x.2.1))), .nil, (.key 900)])], [(900, some (a0d false (.sl 95 2 ((x.2.2.2).length) ((x.2.2.2).flatMap a1y))))]⟩) ?_ ?_
 ·refine a4G [0, 1, 2, 3, 4, 5, 6, 7, 8, 9] (oB := [1, 2]) (oK := []) (by kernel_rfl) rfl rfl ?_
  refine b0W ?_
  refine zN 0 ?_
  refine zN 1 ?_
  refine zN 2 ?_
  refine zN 3 ?_
  refine zN 5 ?_
  refine zN 6 ?_
  refine a1J 4 [9] (by kernel_rfl) ⟨?_, ?_, trivial⟩
  ·refine a6v (k := 900) 4 hT rfl rfl rfl rfl rfl rfl rfl rfl rfl rfl rfl rfl ?_
   refine a1J 7 [9] (by kernel_rfl) ⟨?_, ?_, trivial⟩
   ·refine a2T (k := 900) (cs := (x.2.2.2).flatMap a1y) (n := (x.2.2.2).length) 7 hT rfl rfl rfl rfl rfl rfl rfl rfl (a0a rfl) rfl rfl rfl (a0a rfl) (a3e (fun _ => rfl) _) (by first | (dsimp only [a0d]; omega) | omega) (by first | (dsimp only [a0d]; omega) | omega) (Nat.zero_add _) (rfl) rfl rfl ?_
    simp only [a0i, a0h, SV.kill, CV.kill, kk, Nat.reduceBEq]
    refine a4y 8 rfl (by kernel_rfl) rfl rfl (a2s hT hB rfl rfl rfl (a1x (a0a rfl) rfl rfl rfl rfl rfl (a1x (a0a rfl) rfl rfl rfl rfl rfl (a1x (a0a rfl) rfl rfl rfl rfl rfl a2o)))) rfl rfl rfl rfl ?_
    refine a1J 9 [] (by kernel_rfl) ⟨?_, trivial⟩
    ·refine a7T 9 hT rfl rfl rfl rfl rfl rfl rfl rfl rfl rfl ?_
     refine a1J 10 [] (by kernel_rfl) ⟨?_, trivial⟩
     ·refine a5Y 10 rfl rfl (by kernel_rfl) (a4E hT rfl rfl rfl (a0a rfl) (a0a rfl) rfl rfl rfl rfl rfl rfl) (by kernel_rfl) ?_
      exact a3W (a0e ⟨rfl, rfl, rfl, trivial⟩ ⟨rfl, rfl, rfl, trivial⟩ ⟨rfl, trivial⟩ rfl)
   ·refine a7T 9 hT rfl rfl rfl rfl rfl rfl rfl rfl rfl rfl ?_
    refine a1J 7 [] (by kernel_rfl) ⟨?_, trivial⟩
    ·refine a2T (k := 900) (cs := (x.2.2.2).flatMap a1y) (n := (x.2.2.2).length) 7 hT rfl rfl rfl rfl rfl rfl rfl rfl (a0a rfl) rfl rfl rfl (a0a rfl) (a3e (fun _ => rfl) _) (by first | (dsimp only [a0d]; omega) | omega) (by first | (dsimp only [a0d]; omega) | omega) (Nat.zero_add _) (rfl) rfl rfl ?_
     simp only [a0i, a0h, SV.kill, CV.kill, kk, Nat.reduceBEq]
     refine a4y 8 rfl (by kernel_rfl) rfl rfl (a2s hT hB rfl rfl rfl (a1x (a0a rfl) rfl rfl rfl rfl rfl (a1x (a0a rfl) rfl rfl rfl rfl rfl (a1x (a0a rfl) rfl rfl rfl rfl rfl a2o)))) rfl rfl rfl rfl ?_
     refine a1J 10 [] (by kernel_rfl) ⟨?_, trivial⟩
     ·refine a5Y 10 rfl rfl (by kernel_rfl) (a4E hT rfl rfl rfl (a0a rfl) (a0a rfl) rfl rfl rfl rfl rfl rfl) (by kernel_rfl) ?_
      exact a3W (a0e ⟨rfl, rfl, rfl, trivial⟩ ⟨rfl, rfl, rfl, trivial⟩ ⟨rfl, trivial⟩ rfl)
  ·refine a7T 9 hT rfl rfl rfl rfl rfl rfl rfl rfl rfl rfl ?_
   refine a1J 4 [] (by kernel_rfl) ⟨?_, trivial⟩
   ·refine a6v (k := 900) 4 hT rfl rfl rfl rfl rfl rfl rfl rfl rfl rfl rfl rfl ?_
    refine a1J 7 [] (by kernel_rfl) ⟨?_, trivial⟩
    ·refine a2T (k := 900) (cs := (x.2.2.2).flatMap a1y) (n := (x.2.2.2).length) 7 hT rfl rfl rfl rfl rfl rfl rfl rfl (a0a rfl) rfl rfl rfl (a0a rfl) (a3e (fun _ => rfl) _) (by first | (dsimp only [a0d]; omega) | omega) (by first | (dsimp only [a0d]; omega) | omega) (Nat.zero_add _) (rfl) rfl rfl ?_
     simp only [a0i, a0h, SV.kill, CV.kill, kk, Nat.reduceBEq]
     refine a4y 8 rfl (by kernel_rfl) rfl rfl (a2s hT hB rfl rfl rfl (a1x (a0a rfl) rfl rfl rfl rfl rfl (a1x (a0a rfl) rfl rfl rfl rfl rfl (a1x (a0a rfl) rfl rfl rfl rfl rfl a2o)))) rfl rfl rfl rfl ?_
     refine a1J 10 [] (by kernel_rfl) ⟨?_, trivial⟩
     ·refine a5Y 10 rfl rfl (by kernel_rfl) (a4E hT rfl rfl rfl (a0a rfl) (a0a rfl) rfl rfl rfl rfl rfl rfl) (by kernel_rfl) ?_
      exact a3W (a0e ⟨rfl, rfl, rfl, trivial⟩ ⟨rfl, rfl, rfl, trivial⟩ ⟨rfl, trivial⟩ rfl)
 refine a0p ?_
 refine a0p ?_
 refine a0r (a6X 31 (b := 3) (i := 2) (e := 89) (sz := 3) rfl rfl rfl rfl rfl) ?_
 simp only [a0i, a0h, SV.kill, CV.kill, kk, Nat.reduceBEq]
 refine a0j ?_
 iterate 3 refine z ?_
 refine a0W (ι := Nat) (fun zz => ⟨[(1, .box 1 0), (2, .box 2 0), (3, .box 3 0), (4, .one (.dv [] (.int .i64 ((zz : Int)))))], [(1, 35, [(.dv [] (.str (x.1))), (.dv [] (.int .i64 (x.2.1))), (.dv [] (a0k (x.2.2.1))), (.dv [] (a0A (x.2.2.2)))]), (2, 35, [(.dv [] (.str (ByteArray.empty))), (.dv [] (.int .i64 (0))), .nil, .nil]), (3, 35, [(.dv [] (.str (x.1))), (.dv [] (.int .i64 (x.2.1))), (.key 31), (.key 900)])], [(31, some (a0d false (.sl 89 3 ((x.2.2.1.take zz).length) ((x.2.2.1.take zz).flatMap a0U)))), (900, some (a0d false (.sl 95 2 ((x.2.2.2).length) ((x.2.2.2).flatMap a1y))))]⟩) (fun zz => zz ≤ x.2.2.1.length) (fun zz => x.2.2.1.length - zz) (0) ?_ (a0e ⟨rfl, rfl, rfl, rfl, trivial⟩ ⟨rfl, rfl, rfl, trivial⟩ ⟨rfl, rfl, trivial⟩ rfl) (fun zz hx => ?_)
 ·exact Nat.zero_le _
 obtain ⟨k, rfl⟩ : ∃ v, v = zz := ⟨_, rfl⟩
 replace hx : k ≤ x.2.2.1.length := hx
 have hw := fun h => a1T a0v x.2.2.1 k h
 show Ok _ _ _ _ _ (⟨[(1, .box 1 0), (2, .box 2 0), (3, .box 3 0), (4, .one (.dv [] (.int .i64 ((k : Int)))))], [(1, 35, [(.dv [] (.str (x.1))), (.dv [] (.int .i64 (x.2.1))), (.dv [] (a0k (x.2.2.1))), (.dv [] (a0A (x.2.2.2)))]), (2, 35, [(.dv [] (.str (ByteArray.empty))), (.dv [] (.int .i64 (0))), .nil, .nil]), (3, 35, [(.dv [] (.str (x.1))), (.dv [] (.int .i64 (x.2.1))), (.key 31), (.key 900)])], [(31, some (a0d false (.sl 89 3 ((x.2.2.1.take k).length) ((x.2.2.1.take k).flatMap a0U)))), (900, some (a0d false (.sl 95 2 ((x.2.2.2).length) ((x.2.2.2).flatMap a1y))))]⟩ : St)
 iterate 8 refine z ?_
 refine yQ rfl (fun c1 => ?_) fun c1 => ?_
 ·have d1 := c5p c1
  have hk2 : k < x.2.2.1.length := by omega
  obtain ⟨hw1, hw2⟩ := hw hk2
  iterate 4 refine z ?_
  refine a4G [0, 1, 2, 3, 4, 5, 6, 7, 8] (oB := [1, 2, 3]) (oK := [31, 900]) (by kernel_rfl) rfl rfl ?_
  refine zD 0 ?_
  refine zD 1 ?_
  refine zD 2 ?_
  refine zD 3 ?_
  refine zD 4 ?_
  refine zD 5 ?_
  refine zD 6 ?_
  refine a3L 28000 7 rfl (by kernel_rfl) rfl rfl rfl Tryz.call51 (a5e (x := (((x.2.2.1)).getD ((k : Int)).toNat default)) (by omega)) (a0f (a0a rfl) (a0l (a0c a0b (a0c a0b (a0c a0b a0m)))) a0n) rfl rfl rfl rfl rfl ?_
  refine a6m (k := 29) (js := [28030]) 8 hT rfl (by kernel_rfl) rfl rfl rfl rfl rfl rfl rfl rfl rfl (a0a rfl) rfl rfl (a0o (a0C rfl) (a0o (a1Y rfl) (a0o (a0C rfl) a1e rfl) rfl) rfl) (by decide) (by decide) rfl rfl (by decide) ?_
  simp only [a0i, a0h, SV.kill, CV.kill, kk, Nat.reduceBEq]
  refine a3c [9, 10, 11] rfl rfl (by kernel_rfl) ?_
  refine a4r (k := 31) (j := 29) (cs := (x.2.2.1.take (k + 1)).flatMap a0U) (n := (x.2.2.1.take (k + 1)).length) hT rfl rfl rfl rfl rfl rfl rfl (a0a rfl) rfl rfl rfl (a0a rfl) rfl rfl (by decide) (by dsimp only [a0d]; simp only [c5t]; omega) (by dsimp only [a0d]; simp only [c5t]; omega) ((a3T (enc := a0U) hk2).2) ((a3T (enc := a0U) hk2).1) ?_
  simp only [a0i, a0h, SV.kill, CV.kill, kk, Nat.reduceBEq]
  iterate 2 refine z ?_
  refine a1j ?_
  iterate 2 refine z ?_
  refine a0j ?_
  iterate 4 refine z ?_
  refine ⟨k + 1, ?_, ?_, a0e ⟨rfl, rfl, rfl, rfl, trivial⟩ ⟨rfl, rfl, rfl, trivial⟩ ⟨rfl, rfl, trivial⟩ rfl⟩
  ·omega
  ·omega
 ·have d1 := c5q c1
  iterate 9 refine z ?_
  refine a0r (σ' := ⟨[(2, .box 2 0)], [(2, 35, [(.dv [] (.str (x.1))), (.dv [] (.int .i64 (x.2.1))), (.key 31), (.key 900)])], [(31, some (a0d false (a0k (x.2.2.1)))), (900, some (a0d false (a0A (x.2.2.2))))]⟩) (a0e ⟨rfl, trivial⟩ ⟨rfl, trivial⟩ ⟨(congrArg (fun l : List (a0I) => some (some (KC.mk false 89 3 l.length (l.flatMap a0U)))) (List.take_of_length_le (by omega))), rfl, trivial⟩ rfl) ?_
  refine z ?_
  refine a1B (a0K hT rfl rfl rfl rfl) ?_
  exact ⟨rfl, rfl⟩
theorem b9g {x y : Int}  : PFn Tryz.prog 25 [.one (.dv [] (.int .i64 (x))), .one (.dv [] (.int .i64 (y)))] (.one (.dv [] (.int .i64 (max x y)))) := by
 refine ⟨a0u Tryz.func25 rfl Tryz.ntmps25 Tryz.results25 rfl (fun C => ?_)⟩
 refine a0G (x := .tmp 0) (a0a rfl) fun f0 => ?_
 refine a0G (x := .tmp 1) (a0a rfl) fun f1 => ?_
 iterate 9 refine z ?_
 refine yQ rfl (fun c1 => ?_) fun c1 => ?_
 ·have d1 := c5p c1
  iterate 7 refine z ?_
  first | omega | (dsimp only; omega)
 ·have d1 := c5q c1
  iterate 8 refine z ?_
  first | omega | (dsimp only; omega)
section
variable {α : Type} {enc : α → List DV} {sz : Nat} {q : α → Bool} {x : List α}
theorem a4W (hs : ∀ y, (enc y).length = sz) : ∀ xs : List α, (xs.flatMap enc).length = xs.length * sz
 | [] => by simp
 | y :: xs => by rw [List.flatMap_cons, c5s, a4W hs xs, hs, List.length_cons, Nat.add_mul, Nat.one_mul, Nat.add_comm]
theorem b1q {p : α → Bool} {d : α} : ∀ (xs : List α) (i : Int), 0 ≤ i → (a0q p xs i = -1 ∧ xs.any p = false) ∨ ∃ m, m < xs.length ∧ a0q p xs i = i + (m : Int) ∧ (xs.take m).any p = false ∧ p (xs.getD m d) = true
 | [], i, h => .inl ⟨rfl, rfl⟩
 | y :: xs, i, h => by
  rw [a0q]
  by_cases hp : p y = true
  ·rw [if_pos hp]
   exact .inr ⟨0, by simp, by simp, by simp, by simpa using hp⟩
  ·rw [if_neg hp]
   rcases b1q (p := p) (d := d) xs (i + 1) (by omega) with ⟨h1, h2⟩ | ⟨m, h1, h2, h3, h4⟩
   ·exact .inl ⟨h1, by simp [h2, hp]⟩
   ·exact .inr ⟨m + 1, by simpa using h1, by rw [h2]; omega, by simp [h3, hp], by simpa using h4⟩
def a3m (enc : α → List DV) (q : α → Bool) (x : List α) (k : Nat) (G : List DV) : List DV := ((x.take k).filter q).flatMap enc ++ (G ++ (x.drop k).flatMap enc)
theorem b9h (hs : ∀ y, (enc y).length = sz) {i k : Nat} {G : List DV} (hi : i = ((x.take k).filter q).length) (hG : G.length + i * sz = k * sz) (hk : k ≤ x.length) : (a3m enc q x k G).length = x.length * sz := by
 have e : (x.length - k) * sz + k * sz = x.length * sz := by rw [← Nat.add_mul]; congr 1; omega
 rw [a3m, c5s, c5s, a4W hs, a4W hs, ← hi, List.length_drop]
 omega
theorem b7L (hs : ∀ y, (enc y).length = sz) {i k : Nat} {G : List DV} [Inhabited α] (hi : i = ((x.take k).filter q).length) (hG : G.length + i * sz = k * sz) (hk : k < x.length) : sub (k * sz) sz (a3m enc q x k G) = enc (x.getD k default) := by
 have e : x.drop k = x.getD k default :: x.drop (k + 1) := by rw [List.drop_eq_getElem_cons hk]; simp [List.getD, List.getElem?_eq_getElem hk]
 rw [a3m, ← List.append_assoc, e, List.flatMap_cons, sub, List.drop_left' (by rw [c5s, a4W hs, ← hi]; omega), List.take_left' (hs _)]
theorem c3I (hs : ∀ y, (enc y).length = sz) {i k : Nat} {G : List DV} [Inhabited α] (hi : i = ((x.take k).filter q).length) (hG : G.length + i * sz = k * sz) (hk : k < x.length) (hik : i < k) (hq : q (x.getD k default) = true) :
  a1c (i * sz) (enc (x.getD k default)) (a1c (k * sz) (List.replicate sz .hole) (a3m enc q x k G)) = a3m enc q x (k + 1) (G.drop sz ++ List.replicate sz .hole) := by
 have e : x.drop k = x.getD k default :: x.drop (k + 1) := by rw [List.drop_eq_getElem_cons hk]; simp [List.getD, List.getElem?_eq_getElem hk]
 have m1 : (i + 1) * sz ≤ k * sz := Nat.mul_le_mul_right _ hik
 rw [Nat.add_mul, Nat.one_mul] at m1
 have l1 : (((x.take k).filter q).flatMap enc).length = i * sz := by rw [a4W hs, ← hi]
 have e1 : a1c (k * sz) (List.replicate sz DV.hole) (a3m enc q x k G) = ((x.take k).filter q).flatMap enc ++ (G.take sz ++ (G.drop sz ++ (List.replicate sz .hole ++ (x.drop (k + 1)).flatMap enc))) := by
  rw [a3m, e, List.flatMap_cons, ← List.append_assoc, a5P (by rw [c5s, l1]; omega) (by simp [hs])]
  rw [List.append_assoc, ← List.append_assoc (G.take sz), List.take_append_drop]
 rw [e1, a5P l1.symm (by rw [hs, c5t]; omega), a3m, List.take_add_one, List.getElem?_eq_getElem hk, List.filter_append, List.flatMap_append]
 have : x.getD k default = x[k] := by simp [List.getD, List.getElem?_eq_getElem hk]
 rw [this] at hq ⊢
 simp [hq]
theorem c0S (hs : ∀ y, (enc y).length = sz) {k : Nat} {G : List DV} [Inhabited α] (hk : k < x.length) (hq : q (x.getD k default) = false) : a3m enc q x k G = a3m enc q x (k + 1) (G ++ enc (x.getD k default)) ∧ ((x.take (k + 1)).filter q).length = ((x.take k).filter q).length := by
 have e : x.drop k = x.getD k default :: x.drop (k + 1) := by rw [List.drop_eq_getElem_cons hk]; simp [List.getD, List.getElem?_eq_getElem hk]
 have : x.getD k default = x[k] := by simp [List.getD, List.getElem?_eq_getElem hk]
 have e2 : (x.take (k + 1)).filter q = (x.take k).filter q := by
  rw [List.take_add_one, List.getElem?_eq_getElem hk, List.filter_append]
  rw [this] at hq
  simp [hq]
 refine ⟨?_, by rw [e2]⟩
 rw [a3m, a3m, e2, e, List.flatMap_cons]
 simp
theorem c1H {k : Nat} [Inhabited α] (hk : k < x.length) (hq : q (x.getD k default) = true) : ((x.take (k + 1)).filter q).length = ((x.take k).filter q).length + 1 := by
 have : x.getD k default = x[k] := by simp [List.getD, List.getElem?_eq_getElem hk]
 rw [List.take_add_one, List.getElem?_eq_getElem hk, List.filter_append]
 rw [this] at hq
 simp [hq]
theorem c1O (hs : ∀ y, (enc y).length = sz) {i k : Nat} {G : List DV} (hi : i = ((x.take k).filter q).length) (hG : G.length + i * sz = k * sz) (hk : k = x.length) : a1c (i * sz) (List.replicate ((x.length - i) * sz) .hole) (a3m enc q x k G) = (x.filter q).flatMap enc ++ List.replicate ((x.length - i) * sz) .hole := by
 subst hk
 rw [List.take_length] at hi
 have m : (x.length - i) * sz + i * sz = x.length * sz := by rw [← Nat.add_mul]; congr 1; have := List.length_filter_le q x; omega
 rw [a3m, List.take_length, List.drop_length, List.flatMap_nil]
 have := a5P (A := (x.filter q).flatMap enc) (B := G) (us := List.replicate ((x.length - i) * sz) DV.hole) (D := []) (off := i * sz) (by rw [a4W hs, hi]) (by simp; omega)
 simpa using this
theorem b8Q (hs : ∀ y, (enc y).length = sz) {i : Nat} {H : List DV} (hi : i = (x.filter q).length) : ((x.filter q).flatMap enc ++ H).take (i * sz) = (x.filter q).flatMap enc := List.take_left' (by rw [a4W hs, hi])
theorem c1s {m : Nat} [Inhabited α] (hm : m < x.length) (h3 : (x.take m).any (fun y => !q y) = false) (h4 : q (x.getD m default) = false) : x.flatMap enc = a3m enc q x (m + 1) (enc (x.getD m default)) ∧ m = ((x.take (m + 1)).filter q).length := by
 have e : x.drop m = x.getD m default :: x.drop (m + 1) := by rw [List.drop_eq_getElem_cons hm]; simp [List.getD, List.getElem?_eq_getElem hm]
 have this : x.getD m default = x[m] := by simp [List.getD, List.getElem?_eq_getElem hm]
 have e1 : (x.take m).filter q = x.take m := by
  rw [List.filter_eq_self]
  intro y hy
  rw [List.any_eq_false] at h3
  simpa using h3 y hy
 have e2 : (x.take (m + 1)).filter q = x.take m := by
  rw [List.take_add_one, List.getElem?_eq_getElem hm, List.filter_append, e1]
  rw [this] at h4
  simp [h4]
 refine ⟨?_, by rw [e2, c5t]; omega⟩
 rw [a3m, e2, ← List.flatMap_cons, ← e, ← List.flatMap_append, List.take_append_drop]
theorem b8S (h : x.any (fun y => !q y) = false) : x.filter q = x := by
 rw [List.filter_eq_self]
 intro y hy
 rw [List.any_eq_false] at h
 simpa using h y hy
end
def a5a (r : a3V) (y : a0Q) : Bool := a6g y.1 r
def a1A (r : a3V) (y : a0Q) : Bool := !a6g y.1 r
theorem b7V (r : a3V) : (fun y => !a1A r y) = a5a r := by funext y; simp [a1A, a5a]
def a1L (x : a0I) (r : a3V) : a0I × Int := if a1E x then ((x.1, x.2.1.filter (a1A r), x.2.2), (x.2.1.length : Int) - ((x.2.1.filter (a1A r)).length : Int)) else (x, 0)
theorem b7l {p : a0Q → Bool} {xs : List a0Q} {k : Nat} (hk : k < xs.length) (h : p (xs.getD (k : Int).toNat default) = true) : ((xs.take k).filter p).flatMap a0E ++ a0E (xs.getD (k : Int).toNat default) = ((xs.take (k + 1)).filter p).flatMap a0E ∧ ((xs.take k).filter p).length + 1 = ((xs.take (k + 1)).filter p).length := by
 rw [b7R hk, if_pos h, List.flatMap_append, List.flatMap_cons, List.flatMap_nil, List.append_nil, c5s]
 exact ⟨rfl, rfl⟩
theorem b9W {p : a0Q → Bool} {xs : List a0Q} {k : Nat} (hk : k < xs.length) (h : p (xs.getD (k : Int).toNat default) = false) : (xs.take k).filter p = (xs.take (k + 1)).filter p := by
 rw [b7R hk, if_neg (by rw [h]; simp), List.append_nil]
theorem b5y {x : a0I} {r : a3V} (h : (!a1E x) = true) : a1L x r = (x, 0) := by rw [a1L, if_neg (by simpa using h)]
theorem b5a {x : a0I} {r : a3V} (h : (!a1E x) = false) : a1L x r = ((x.1, x.2.1.filter (a1A r), x.2.2), (x.2.1.length : Int) - ((x.2.1.filter (a1A r)).length : Int)) := by rw [a1L, if_pos (by simpa using h)]
theorem b5T {y : a0Q} {r : a3V}  : PFn Tryz.prog 161 [.agg [(.dv [] (.int .i64 (y.1.1))), (.dv [] (.int .i64 (y.1.2.1))), (.dv [] (.str (y.1.2.2))), (.dv [] (a0z (y.2)))], .ref [] [.bool (r.1), .bool (r.2.1), .int .i64 (r.2.2.1.1), .int .i64 (r.2.2.1.2.1), .str (r.2.2.1.2.2), .int .i64 (r.2.2.2.1), .int .i64 (r.2.2.2.2.1), .str (r.2.2.2.2.2)]] (.one (.dv [] (.bool (a5a r y)))) := by
 refine ⟨a0u Tryz.func161 rfl Tryz.ntmps161 Tryz.results161 rfl (fun C => ?_)⟩
 refine yF 0 0 rfl rfl fun f0_0 => ?_
 refine yF 0 1 rfl rfl fun f0_1 => ?_
 refine yF 0 2 rfl rfl fun f0_2 => ?_
 refine yF 0 3 rfl rfl fun f0_3 => ?_
 iterate 8 refine z ?_
 refine zC Tryz.call162 ?_ (hf := c4V)
 iterate 4 refine z ?_
 rfl
theorem b8U {x : List a0Q} {r : a3V}  : PFn Tryz.prog 158 [.one (.dv [] (a0t (x))), .fn 161 [[.bool (r.1), .bool (r.2.1), .int .i64 (r.2.2.1.1), .int .i64 (r.2.2.1.2.1), .str (r.2.2.1.2.2), .int .i64 (r.2.2.2.1), .int .i64 (r.2.2.2.2.1), .str (r.2.2.2.2.2)]]] (.one (.dv [] (.int .i64 (a0q (a5a r) x 0)))) := by
 refine ⟨a0u Tryz.func158 rfl Tryz.ntmps158 Tryz.results158 rfl (fun C => ?_)⟩
 refine a0G (x := .tmp 0) (a0a rfl) fun f0 => ?_
 iterate 10 refine z ?_
 refine a0W (ι := Nat) (fun zz => ⟨[(0, .one (.dv [] (a0t (x)))), (1, .fn 161 [[.bool (r.1), .bool (r.2.1), .int .i64 (r.2.2.1.1), .int .i64 (r.2.2.1.2.1), .str (r.2.2.1.2.2), .int .i64 (r.2.2.2.1), .int .i64 (r.2.2.2.2.1), .str (r.2.2.2.2.2)]]), (7, .one (.dv [] (.int .i64 ((((x)).length : Int))))), (8, .one (.dv [] (.int .i64 ((zz : Int)))))], [], []⟩) (fun zz => zz ≤ x.length ∧ (x.take zz).any (a5a r) = false) (fun zz => x.length - zz) (0) ?_ (a0e ⟨rfl, rfl, rfl, rfl, trivial⟩ trivial trivial rfl) (fun zz hx => ?_)
 ·exact ⟨Nat.zero_le _, rfl⟩
 obtain ⟨n, rfl⟩ : ∃ v, v = zz := ⟨_, rfl⟩
 replace hx : n ≤ x.length ∧ (x.take n).any (a5a r) = false := hx
 obtain ⟨hk, hall⟩ := hx
 show Ok _ _ _ _ _ (⟨[(0, .one (.dv [] (a0t (x)))), (1, .fn 161 [[.bool (r.1), .bool (r.2.1), .int .i64 (r.2.2.1.1), .int .i64 (r.2.2.1.2.1), .str (r.2.2.1.2.2), .int .i64 (r.2.2.2.1), .int .i64 (r.2.2.2.2.1), .str (r.2.2.2.2.2)]]), (7, .one (.dv [] (.int .i64 ((((x)).length : Int))))), (8, .one (.dv [] (.int .i64 ((n : Int)))))], [], []⟩ : St)
 iterate 3 refine z ?_
 refine a0p ?_
 refine yQ rfl (fun c1 => ?_) fun c1 => ?_
 ·have d1 := c5p c1
  iterate 14 refine z ?_
  refine a9q rfl rfl rfl (a0a rfl) Tryz.call161 b5T (a0f (a0a rfl) (a0l (a0c a0b (a0c a0b (a0c a0b (a0c a0b a0m))))) a0n) rfl rfl ?_
  refine z ?_
  refine yQ rfl (fun c2 => ?_) fun c2 => ?_
  ·iterate 11 refine z ?_
   exact (a6V (p := a5a r) (d := default) hall (by omega) c2).symm
  ·iterate 3 refine z ?_
   refine a0j ?_
   iterate 3 refine z ?_
   refine ⟨n + 1, ?_, ?_, a0e ⟨rfl, rfl, rfl, rfl, trivial⟩ trivial trivial rfl⟩
   ·exact ⟨by omega, a6F (d := default) hall (by omega) c2⟩
   ·omega
 ·have d1 := c5q c1
  iterate 10 refine z ?_
  exact (a6Q (p := a5a r) hall (by omega)).symm
theorem b9J {x : List a0Q} {r : a3V} (hb : x.length ≤ 1099511627776) : MFn Tryz.prog 160 [.fn 161 [[.bool (r.1), .bool (r.2.1), .int .i64 (r.2.2.1.1), .int .i64 (r.2.2.1.2.1), .str (r.2.2.1.2.2), .int .i64 (r.2.2.2.1), .int .i64 (r.2.2.2.2.1), .str (r.2.2.2.2.2)]]] (a0d false (.sl 128 4 (x.length) (x.flatMap a0E))) (a0d false (.sl 128 4 ((x.filter (a1A r)).length) ((x.filter (a1A r)).flatMap a0E))) := by
 refine ⟨a0u Tryz.func160 rfl Tryz.ntmps160 Tryz.results160 rfl (fun C => ?_)⟩
 iterate 6 refine z ?_
 refine a3k rfl rfl rfl Tryz.call158 b8U (a0f (a0a rfl) (a0H (a0L rfl rfl)) (a0f (a0a rfl) c3k a0n)) rfl rfl ?_
 iterate 7 refine z ?_
 refine yQ rfl (fun c1 => ?_) fun c1 => ?_
 ·have d1 := c5p c1
  have hn := (b1q (p := a5a r) (d := default) x 0 (by omega)).resolve_right (fun ⟨m, h1, h2, _⟩ => by omega)
  rw [← b7V r] at hn
  have hfe := b8S hn.2
  iterate 4 refine z ?_
  refine a0r (σ' := ⟨[(4, .one (.key 0))], [], [(0, some (a0d false (.sl 128 4 ((x.filter (a1A r)).length) ((x.filter (a1A r)).flatMap a0E))))]⟩) (a0e ⟨rfl, trivial⟩ trivial ⟨(congrArg (fun l : List a0Q => some (some (KC.mk false 128 4 l.length (l.flatMap a0E)))) hfe.symm), trivial⟩ rfl) ?_
  iterate 2 refine z ?_
  refine a1B (a0B rfl) ?_
  exact ⟨rfl, rfl⟩
 ·have d1 := c5q c1
  obtain ⟨m, hm1, hm2, hm3, hm4⟩ := (b1q (p := a5a r) (d := default) x 0 (by omega)).resolve_left (fun h => d1 h.1)
  rw [← b7V r] at hm3
  have hm5 : a1A r (x.getD m default) = false := by unfold a1A; rw [show a6g (x.getD m default).1 r = true from hm4]; rfl
  have hst := c1s (enc := a0E) hm1 hm3 hm5
  iterate 9 refine z ?_
  refine a0W (ι := Nat × Nat × List DV) (fun zz => ⟨[(0, .one (.key 0)), (1, .fn 161 [[.bool (r.1), .bool (r.2.1), .int .i64 (r.2.2.1.1), .int .i64 (r.2.2.1.2.1), .str (r.2.2.1.2.2), .int .i64 (r.2.2.2.1), .int .i64 (r.2.2.2.2.1), .str (r.2.2.2.2.2)]]), (4, .one .nil), (5, .one (.dv [] (.int .i64 ((zz.1 : Int))))), (6, .one (.dv [] (.int .i64 ((zz.2.1 : Int)))))], [], [(0, some (a0d false (.sl 128 4 (x.length) (a3m a0E (a1A r) x zz.2.1 zz.2.2))))]⟩) (fun zz => zz.1 = ((x.take zz.2.1).filter (a1A r)).length ∧ zz.1 < zz.2.1 ∧ zz.2.1 ≤ x.length ∧ zz.2.2.length + zz.1 * 4 = zz.2.1 * 4) (fun zz => x.length - zz.2.1) ((m, m + 1, a0E (x.getD m default))) ?_ (a0e ⟨rfl, rfl, rfl, (congrArg (fun z : Int => some (SV.one (CV.dv [] (DV.int .i64 z)))) (show a0q (a5a r) x 0 = (m : Int) by omega)), (congrArg (fun z : Int => some (SV.one (CV.dv [] (DV.int .i64 z)))) (show a0q (a5a r) x 0 + 1 = ((m + 1 : Nat) : Int) by omega)), trivial⟩ trivial ⟨(congrArg (fun cs => some (some (KC.mk false 128 4 x.length cs))) (hst.1)), trivial⟩ rfl) (fun zz hx => ?_)
  ·exact ⟨hst.2, by show m < m + 1; omega, by show m + 1 ≤ x.length; omega, by show 4 + m * 4 = (m + 1) * 4; omega⟩
  obtain ⟨i, k, G⟩ := zz
  replace hx : i = ((x.take k).filter (a1A r)).length ∧ i < k ∧ k ≤ x.length ∧ G.length + i * 4 = k * 4 := hx
  obtain ⟨hi, hik, hk, hG⟩ := hx
  show Ok _ _ _ _ _ (⟨[(0, .one (.key 0)), (1, .fn 161 [[.bool (r.1), .bool (r.2.1), .int .i64 (r.2.2.1.1), .int .i64 (r.2.2.1.2.1), .str (r.2.2.1.2.2), .int .i64 (r.2.2.2.1), .int .i64 (r.2.2.2.2.1), .str (r.2.2.2.2.2)]]), (4, .one .nil), (5, .one (.dv [] (.int .i64 ((i : Int))))), (6, .one (.dv [] (.int .i64 ((k : Int)))))], [], [(0, some (a0d false (.sl 128 4 (x.length) (a3m a0E (a1A r) x k G))))]⟩ : St)
  iterate 4 refine z ?_
  refine yO rfl rfl (a3S (n := (x.length)) hT rfl rfl (a0a rfl) rfl rfl) rfl ?_
  iterate 2 refine z ?_
  refine yQ rfl (fun c2 => ?_) fun c2 => ?_
  ·have d2 := c5p c2
   have hk2 : k < x.length := by omega
   iterate 7 refine z ?_
   refine yO rfl rfl (a1q (i := k) hT rfl rfl rfl (a0a rfl) rfl (a0a rfl) rfl (by show _ < (x.length); omega)) rfl ?_
   refine yO rfl rfl (b1p (ds := [.int .i64 ((x.getD (k : Int).toNat default).1.1), .int .i64 ((x.getD (k : Int).toNat default).1.2.1), .str ((x.getD (k : Int).toNat default).1.2.2), a0z ((x.getD (k : Int).toNat default).2)]) hT rfl rfl (a0a rfl) rfl rfl (by decide) (b7L (enc := a0E) (q := a1A r) (sz := 4) (fun _ => rfl) hi hG hk2)) rfl ?_
   iterate 6 refine z ?_
   refine a9q rfl rfl rfl (a0a rfl) Tryz.call161 b5T (a0f (a0a rfl) (a0l (a0c a0b (a0c a0b (a0c a0b (a0c a9l a0m))))) a0n) rfl rfl ?_
   iterate 2 refine z ?_
   refine yQ rfl (fun c3 => ?_) fun c3 => ?_
   ·have hq : a1A r (x.getD k default) = true := c3
    have hy := c1H (q := a1A r) hk2 hq
    iterate 4 refine z ?_
    refine yO rfl rfl (a1q (i := i) hT rfl rfl rfl (a0a rfl) rfl (a0a rfl) rfl (by show _ < (x.length); omega)) rfl ?_
    refine c4F (src := k * 4) (ds := [.int .i64 ((x.getD (k : Int).toNat default).1.1), .int .i64 ((x.getD (k : Int).toNat default).1.2.1), .str ((x.getD (k : Int).toNat default).1.2.2), a0z ((x.getD (k : Int).toNat default).2)]) (cs := a3m a0E (a1A r) x (k + 1) (G.drop 4 ++ List.replicate 4 .hole)) hT rfl rfl rfl rfl (a0a rfl) (a0a rfl) rfl rfl (b7L (enc := a0E) (q := a1A r) (sz := 4) (fun _ => rfl) hi hG hk2) (by omega) (by rw [b9h (sz := 4) (fun _ => rfl) hi hG hk]; omega) (c3I (sz := 4) (fun _ => rfl) hi hG hk2 hik hq) ?_
    simp only [a0i, a0h, SV.kill, CV.kill, kk, Nat.reduceBEq]
    refine z ?_
    refine a0j ?_
    iterate 3 refine z ?_
    refine a1j ?_
    iterate 2 refine z ?_
    refine a0j ?_
    iterate 4 refine z ?_
    refine ⟨(i + 1, k + 1, (G.drop 4 ++ List.replicate 4 .hole)), ?_, ?_, a0e ⟨rfl, rfl, rfl, rfl, rfl, trivial⟩ trivial ⟨rfl, trivial⟩ rfl⟩
    ·exact ⟨by dsimp only; omega, by dsimp only; omega, by dsimp only; omega, by simp; omega⟩
    ·dsimp only; omega
   ·have hq : a1A r (x.getD k default) = false := c3
    have hno := c0S (enc := a0E) (q := a1A r) (sz := 4) (G := G) (fun _ => rfl) hk2 hq
    iterate 3 refine z ?_
    refine a0j ?_
    iterate 4 refine z ?_
    refine ⟨(i, k + 1, G ++ a0E (x.getD k default)), ?_, ?_, a0e ⟨rfl, rfl, rfl, rfl, rfl, trivial⟩ trivial ⟨(congrArg (fun cs => some (some (KC.mk false 128 4 x.length cs))) (hno.1)), trivial⟩ rfl⟩
    ·exact ⟨by dsimp only; omega, by dsimp only; omega, by dsimp only; omega, by show (G ++ a0E _).length + i * 4 = (k + 1) * 4; rw [c5s]; show G.length + 4 + i * 4 = _; omega⟩
    ·dsimp only; omega
  ·have d2 := c5q c2
   iterate 8 refine z ?_
   refine yO rfl rfl (c1b (j := 0) (n := (x.length)) (lo := i) (sz := 4) (z := (i : Int)) hT rfl rfl rfl (a0a rfl) rfl (a0a rfl) rfl rfl (by omega) (by omega)) rfl ?_
   refine c4p (k := 0) (lo := i) (hi := (x.length)) (sz := 4) (cs := (x.filter (a1A r)).flatMap a0E ++ List.replicate ((x.length - i) * 4) .hole) hT rfl rfl rfl rfl rfl rfl (a0a rfl) rfl rfl rfl (by first | omega | (dsimp only [a0d]; omega)) (by first | omega | (dsimp only [a0d]; omega)) (c1O (sz := 4) (fun _ => rfl) hi hG (by omega)) ?_
   simp only [a0i, a0h, SV.kill, CV.kill, kk, Nat.reduceBEq]
   iterate 4 refine z ?_
   refine yO rfl rfl (c3e (j := 0) (n := (x.length)) (hi := i) (sz := 4) (z := (i : Int)) hT rfl rfl rfl (a0a rfl) rfl (a0a rfl) rfl rfl (by omega) (by omega)) rfl ?_
   iterate 2 refine z ?_
   have hke : k = x.length := by omega
   have hi2 : i = (x.filter (a1A r)).length := by rw [hi, hke, List.take_length]
   refine a0r (c5d (s := 4) (k := 0) (m := i) (sz := 4) (cs := (x.filter (a1A r)).flatMap a0E) rfl rfl rfl rfl (by first | omega | (dsimp only [a0d]; omega)) (b8Q (sz := 4) (fun _ => rfl) hi2)) ?_
   simp only [a0i, a0h, SV.kill, CV.kill, kk, Nat.reduceBEq]
   refine a0r (σ' := ⟨[(4, .one (.key 0))], [], [(0, some (a0d false (.sl 128 4 ((x.filter (a1A r)).length) ((x.filter (a1A r)).flatMap a0E))))]⟩) (a0e ⟨rfl, trivial⟩ trivial ⟨(congrArg (fun n : Nat => some (some (KC.mk false 128 4 n ((x.filter (a1A r)).flatMap a0E)))) hi2), trivial⟩ rfl) ?_
   refine z ?_
   refine a1B (a0B rfl) ?_
   exact ⟨rfl, rfl⟩
theorem b5j {x : a0I} {r : a3V} (hb : a0v x ≤ 1099511627776) : KFn Tryz.prog 141 [.agg [(.dv [] (.str (x.1))), (.dv [] (a0t (x.2.1))), (.dv [] (.int .i64 (x.2.2)))], .agg [(.dv [] (.bool (r.1))), (.dv [] (.bool (r.2.1))), (.dv [] (.int .i64 (r.2.2.1.1))), (.dv [] (.int .i64 (r.2.2.1.2.1))), (.dv [] (.str (r.2.2.1.2.2))), (.dv [] (.int .i64 (r.2.2.2.1))), (.dv [] (.int .i64 (r.2.2.2.2.1))), (.dv [] (.str (r.2.2.2.2.2)))]] (.tup [(true, [(.dv [] (.str ((a1L x r).1.1))), (.key 9001), (.dv [] (.int .i64 ((a1L x r).1.2.2)))]), (false, [(.dv [] (.int .i64 ((a1L x r).2)))])]) [(9001, some (a0d false (a0t ((a1L x r).1.2.1))))] := by
 refine ⟨a0u Tryz.func141 rfl Tryz.ntmps141 Tryz.results141 rfl (fun C => ?_)⟩
 have hlen : x.2.1.length ≤ 1099511627776 := by have h3 : a0v x = x.1.size + (x.2.1.length + wSum a1a x.2.1) := rfl; omega
 have hfl := List.length_filter_le (a1A r) x.2.1
 refine yF 0 0 rfl rfl fun f0_0 => ?_
 refine yF 0 1 rfl rfl fun f0_1 => ?_
 refine yF 0 2 rfl rfl fun f0_2 => ?_
 refine yF 1 2 rfl rfl fun f1_2 => ?_
 refine yF 1 3 rfl rfl fun f1_3 => ?_
 refine yF 1 4 rfl rfl fun f1_4 => ?_
 refine yF 1 5 rfl rfl fun f1_5 => ?_
 refine yF 1 6 rfl rfl fun f1_6 => ?_
 refine yF 1 7 rfl rfl fun f1_7 => ?_
 iterate 8 refine z ?_
 refine zK 8971 Tryz.call66 ?_ (hf := a5c (x := x) (by omega))
 iterate 6 refine z ?_
 refine zC Tryz.call70 ?_ (hf := a8B (s := x) )
 iterate 2 refine z ?_
 refine yQ rfl (fun c1 => ?_) fun c1 => ?_
 ·iterate 5 refine z ?_
  rw [b5y c1]
  refine a0r (σ' := ⟨[(4, .box 4 0), (5, .one (.dv [] (.int .i64 (0))))], [(4, 89, [(.dv [] (.str ((x).1))), (.key 9001), (.dv [] (.int .i64 ((x).2.2)))])], [(9001, some (a0d false (a0t (x.2.1))))]⟩) (a0e ⟨rfl, rfl, trivial⟩ ⟨rfl, trivial⟩ ⟨rfl, trivial⟩ rfl) ?_
  iterate 2 refine z ?_
  refine a1W (a0K hT rfl rfl rfl rfl) (a0B rfl) rfl rfl ?_
  first | exact ⟨rfl, rfl⟩ | skip
 ·iterate 5 refine z ?_
  refine yO rfl rfl (b0B rfl (a0a rfl)) rfl ?_
  refine c2M (k := 9001) rfl rfl rfl rfl Tryz.call160 (b9J (x := x.2.1) (r := r) (by omega)) (a0a rfl) rfl (rfl) rfl (c1w (a0a rfl) (c3P (b1g rfl rfl a9R)) c5g) ?_
  simp only [a0i, a0h, SV.kill, CV.kill, kk, Nat.reduceBEq]
  iterate 3 refine z ?_
  refine a0p ?_
  refine a3p 4 (oB := [2, 3, 6]) (oK := [9001]) (by kernel_rfl) rfl rfl ?_
  refine a1i 0 rfl (by kernel_rfl) rfl rfl (a2i hT rfl rfl (a0a rfl) rfl rfl) rfl rfl rfl rfl rfl ?_
  refine a1i 1 rfl (by kernel_rfl) rfl rfl (a4S hT rfl rfl rfl (a0a rfl)) rfl rfl rfl rfl rfl ?_
  refine a1i 2 rfl (by kernel_rfl) rfl rfl (a3C hT rfl rfl (a0a rfl) rfl rfl) rfl rfl rfl rfl rfl ?_
  refine a1i 3 rfl (by kernel_rfl) rfl rfl (a4H hT rfl rfl (a0a rfl)) rfl rfl rfl rfl rfl ?_
  refine a1i 4 rfl (by kernel_rfl) rfl rfl (a4S hT rfl rfl rfl (a0a rfl)) rfl rfl rfl rfl rfl ?_
  refine a1i 5 rfl (by kernel_rfl) rfl rfl (a3C hT rfl rfl (a0a rfl) rfl rfl) rfl rfl rfl rfl rfl ?_
  refine a1i 6 rfl (by kernel_rfl) rfl rfl (a3S (n := ((x.2.1.filter (a1A r)).length)) hT rfl rfl (a0a rfl) rfl rfl) rfl rfl rfl rfl rfl ?_
  refine a1i 7 rfl (by kernel_rfl) rfl rfl (a8W rfl (a0a rfl) (a0a rfl) (a4c (by omega) (by omega))) rfl rfl rfl rfl rfl ?_
  refine a3t 8 rfl (by kernel_rfl) rfl hT rfl rfl rfl (a0a rfl) (a0a rfl) rfl rfl rfl rfl rfl rfl ?_
  refine a3s [9] rfl rfl (by kernel_rfl) ?_
  iterate 2 refine z ?_
  rw [b5a c1]
  refine a0r (σ' := ⟨[(4, .box 4 0), (5, .one (.dv [] (.int .i64 (((((x.2.1)).length : Int)) - ((((x.2.1.filter (a1A r)).length) : Int))))))], [(4, 89, [(.dv [] (.str ((x).1))), (.key 9001), (.dv [] (.int .i64 ((x).2.2)))])], [(9001, some (a0d false (a0t (x.2.1.filter (a1A r)))))]⟩) (a0e ⟨rfl, rfl, trivial⟩ ⟨rfl, trivial⟩ ⟨rfl, trivial⟩ rfl) ?_
  refine z ?_
  refine a1W (a0K hT rfl rfl rfl rfl) (a0B rfl) rfl rfl ?_
  first | exact ⟨rfl, rfl⟩ | skip
theorem b7Q {x : a0I} {r : a3V} (hb : a0v x ≤ 1099511627776) : KFn Tryz.prog 126 [.agg [(.dv [] (.str (x.1))), (.dv [] (a0t (x.2.1))), (.dv [] (.int .i64 (x.2.2)))], .agg [(.dv [] (.bool (r.1))), (.dv [] (.bool (r.2.1))), (.dv [] (.int .i64 (r.2.2.1.1))), (.dv [] (.int .i64 (r.2.2.1.2.1))), (.dv [] (.str (r.2.2.1.2.2))), (.dv [] (.int .i64 (r.2.2.2.1))), (.dv [] (.int .i64 (r.2.2.2.2.1))), (.dv [] (.str (r.2.2.2.2.2)))]] (.tup [(true, [(.dv [] (.str ((a1L x r).1.1))), (.key 9001), (.dv [] (.int .i64 ((a1L x r).1.2.2)))]), (false, [(.dv [] (.int .i64 ((a1L x r).2)))])]) [(9001, some (a0d false (a0t ((a1L x r).1.2.1))))] := by
 refine ⟨a0u Tryz.func126 rfl Tryz.ntmps126 Tryz.results126 rfl (fun C => ?_)⟩
 have hlen : x.2.1.length ≤ 1099511627776 := by have h3 : a0v x = x.1.size + (x.2.1.length + wSum a1a x.2.1) := rfl; omega
 have hfl := List.length_filter_le (a1A r) x.2.1
 refine yF 0 0 rfl rfl fun f0_0 => ?_
 refine yF 0 1 rfl rfl fun f0_1 => ?_
 refine yF 0 2 rfl rfl fun f0_2 => ?_
 refine yF 1 2 rfl rfl fun f1_2 => ?_
 refine yF 1 3 rfl rfl fun f1_3 => ?_
 refine yF 1 4 rfl rfl fun f1_4 => ?_
 refine yF 1 5 rfl rfl fun f1_5 => ?_
 refine yF 1 6 rfl rfl fun f1_6 => ?_
 refine yF 1 7 rfl rfl fun f1_7 => ?_
 iterate 9 refine z ?_
 refine zC Tryz.call54 ?_ (hf := b2N (s := x) )
 iterate 2 refine z ?_
 refine yQ rfl (fun c1 => ?_) fun c1 => ?_
 ·iterate 2 refine z ?_
  refine zK 8971 Tryz.call51 ?_ (hf := a5e (x := x) (by omega))
  iterate 3 refine z ?_
  rw [b5y c1]
  refine a0r (σ' := ⟨[(4, .box 4 0), (5, .one (.dv [] (.int .i64 (0))))], [(4, 89, [(.dv [] (.str ((x).1))), (.key 9001), (.dv [] (.int .i64 ((x).2.2)))])], [(9001, some (a0d false (a0t (x.2.1))))]⟩) (a0e ⟨rfl, rfl, trivial⟩ ⟨rfl, trivial⟩ ⟨rfl, trivial⟩ rfl) ?_
  iterate 2 refine z ?_
  refine a1W (a0K hT rfl rfl rfl rfl) (a0B rfl) rfl rfl ?_
  exact ⟨rfl, rfl⟩
 ·iterate 7 refine z ?_
  refine yO rfl rfl (a2s hT hB rfl rfl rfl (a1x (a0a rfl) rfl rfl rfl rfl rfl (a1x (a0a rfl) rfl rfl rfl rfl rfl a2o))) rfl ?_
  iterate 3 refine z ?_
  refine a0p ?_
  refine a0p ?_
  refine a0r (a6X 9001 (b := 6) (i := 1) (e := 128) (sz := 4) rfl rfl rfl rfl rfl) ?_
  simp only [a0i, a0h, SV.kill, CV.kill, kk, Nat.reduceBEq]
  refine a0j ?_
  iterate 3 refine z ?_
  refine a0W (ι := Nat) (fun zz => ⟨[(2, .box 2 0), (3, .box 3 0), (4, .box 4 0), (5, .one (.dv [] (.int .i64 (0)))), (6, .box 6 0), (7, .one (.dv [] (.int .i64 ((zz : Int)))))], [(2, 89, [(.dv [] (.str (x.1))), (.dv [] (a0t (x.2.1))), (.dv [] (.int .i64 (x.2.2)))]), (3, 169, [(.dv [] (.bool (r.1))), (.dv [] (.bool (r.2.1))), (.dv [] (.int .i64 (r.2.2.1.1))), (.dv [] (.int .i64 (r.2.2.1.2.1))), (.dv [] (.str (r.2.2.1.2.2))), (.dv [] (.int .i64 (r.2.2.2.1))), (.dv [] (.int .i64 (r.2.2.2.2.1))), (.dv [] (.str (r.2.2.2.2.2)))]), (4, 89, [(.dv [] (.str (ByteArray.empty))), .nil, (.dv [] (.int .i64 (0)))]), (6, 89, [(.dv [] (.str (x.1))), (.key 9001), (.dv [] (.int .i64 (x.2.2)))])], [(9001, some (a0d false (.sl 128 4 (((x.2.1.take zz).filter (a1A r)).length) (((x.2.1.take zz).filter (a1A r)).flatMap a0E))))]⟩) (fun zz => zz ≤ x.2.1.length) (fun zz => x.2.1.length - zz) (0) ?_ (a0e ⟨rfl, rfl, rfl, rfl, rfl, rfl, trivial⟩ ⟨rfl, rfl, rfl, rfl, trivial⟩ ⟨rfl, trivial⟩ rfl) (fun zz hx => ?_)
  ·exact Nat.zero_le _
  obtain ⟨k, rfl⟩ : ∃ v, v = zz := ⟨_, rfl⟩
  replace hx : k ≤ x.2.1.length := hx
  have hw := fun h => a1T a1a x.2.1 k h
  show Ok _ _ _ _ _ (⟨[(2, .box 2 0), (3, .box 3 0), (4, .box 4 0), (5, .one (.dv [] (.int .i64 (0)))), (6, .box 6 0), (7, .one (.dv [] (.int .i64 ((k : Int)))))], [(2, 89, [(.dv [] (.str (x.1))), (.dv [] (a0t (x.2.1))), (.dv [] (.int .i64 (x.2.2)))]), (3, 169, [(.dv [] (.bool (r.1))), (.dv [] (.bool (r.2.1))), (.dv [] (.int .i64 (r.2.2.1.1))), (.dv [] (.int .i64 (r.2.2.1.2.1))), (.dv [] (.str (r.2.2.1.2.2))), (.dv [] (.int .i64 (r.2.2.2.1))), (.dv [] (.int .i64 (r.2.2.2.2.1))), (.dv [] (.str (r.2.2.2.2.2)))]), (4, 89, [(.dv [] (.str (ByteArray.empty))), .nil, (.dv [] (.int .i64 (0)))]), (6, 89, [(.dv [] (.str (x.1))), (.key 9001), (.dv [] (.int .i64 (x.2.2)))])], [(9001, some (a0d false (.sl 128 4 (((x.2.1.take k).filter (a1A r)).length) (((x.2.1.take k).filter (a1A r)).flatMap a0E))))]⟩ : St)
  iterate 8 refine z ?_
  refine yQ rfl (fun c2 => ?_) fun c2 => ?_
  ·have d2 := c5p c2
   have hk2 : k < x.2.1.length := by omega
   have hrec : a1a (x.2.1.getD (k : Int).toNat default) ≤ 1099511627776 := by have := hw hk2; have h3 : a0v x = x.1.size + (x.2.1.length + wSum a1a x.2.1) := rfl; omega
   iterate 4 refine z ?_
   refine a0p ?_
   refine a1o (oB := [2, 3, 4, 6]) (oK := [9001]) (by kernel_rfl) rfl rfl ?_
   refine zD 0 ?_
   refine zD 1 ?_
   refine zD 2 ?_
   refine zD 3 ?_
   refine zD 4 ?_
   refine zD 5 ?_
   refine zD 6 ?_
   refine a2v 7 rfl (by kernel_rfl) rfl rfl rfl Tryz.call149 (b9P (x := (((x.2.1)).getD ((k : Int)).toNat default).1) (y := r) ) (a0f (a0a rfl) (a0l (a0c a0b (a0c a0b (a0c a0b a0m)))) (a0f (a0a rfl) (a0l (a0c a0b (a0c a0b (a0c a0b (a0c a0b (a0c a0b (a0c a0b (a0c a0b (a0c a0b a0m))))))))) a0n)) rfl rfl rfl rfl ?_
   refine zD 8 ?_
   refine a1R (by kernel_rfl) ?_
   refine z ?_
   refine yQ rfl (fun c3 => ?_) fun c3 => ?_
   ·have hq : a1A r (x.2.1.getD (k : Int).toNat default) = true := c3
    refine a4G [0, 1, 2, 3, 4, 5, 6, 7, 8] (oB := [2, 3, 4, 6]) (oK := [9001]) (by kernel_rfl) rfl rfl ?_
    refine zD 0 ?_
    refine zD 1 ?_
    refine zD 2 ?_
    refine zD 3 ?_
    refine zD 4 ?_
    refine zD 5 ?_
    refine zD 6 ?_
    refine a3L 41000 7 rfl (by kernel_rfl) rfl rfl rfl Tryz.call87 (b1M (x := (x.2.1.getD (k : Int).toNat default)) (by exact Nat.le_trans (a6b _) hrec)) (a0f (a0a rfl) (a0l (a0c a0b (a0c a0b (a0c a0b (a0c a0b a0m))))) a0n) rfl rfl rfl rfl rfl ?_
    refine a6m (k := 42) (js := [48003]) 8 hT rfl (by kernel_rfl) rfl rfl rfl rfl rfl rfl rfl rfl rfl (a0a rfl) rfl rfl (a0o (a0C rfl) (a0o (a0C rfl) (a0o (a0C rfl) (a0o (a1Y rfl) a1e rfl) rfl) rfl) rfl) (by decide) (by decide) rfl rfl (by decide) ?_
    simp only [a0i, a0h, SV.kill, CV.kill, kk, Nat.reduceBEq]
    refine a3c [9, 10, 11] rfl rfl (by kernel_rfl) ?_
    refine a4r (k := 9001) (j := 42) (cs := ((x.2.1.take (k + 1)).filter (a1A r)).flatMap a0E) (n := ((x.2.1.take (k + 1)).filter (a1A r)).length) hT rfl rfl rfl rfl rfl rfl rfl (a0a rfl) rfl rfl rfl (a0a rfl) rfl rfl (by decide) (by have := List.length_filter_le (a1A r) (x.2.1.take k); rw [c5t] at this; dsimp only [a0d]; omega) (by have := List.length_filter_le (a1A r) (x.2.1.take k); rw [c5t] at this; dsimp only [a0d]; omega) ((b7l hk2 hq).2) ((b7l hk2 hq).1) ?_
    simp only [a0i, a0h, SV.kill, CV.kill, kk, Nat.reduceBEq]
    iterate 2 refine z ?_
    refine a1j ?_
    iterate 2 refine z ?_
    refine a0j ?_
    iterate 4 refine z ?_
    refine ⟨k + 1, ?_, ?_, a0e ⟨rfl, rfl, rfl, rfl, rfl, rfl, trivial⟩ ⟨rfl, rfl, rfl, rfl, trivial⟩ ⟨rfl, trivial⟩ rfl⟩
    ·omega
    ·omega
   ·have hq : a1A r (x.2.1.getD (k : Int).toNat default) = false := c3
    iterate 3 refine z ?_
    refine a0j ?_
    iterate 4 refine z ?_
    refine ⟨k + 1, ?_, ?_, a0e ⟨rfl, rfl, rfl, rfl, rfl, rfl, trivial⟩ ⟨rfl, rfl, rfl, rfl, trivial⟩ ⟨(congrArg (fun l : List a0Q => some (some (KC.mk false 128 4 l.length (l.flatMap a0E)))) (b9W hk2 hq)), trivial⟩ rfl⟩
    ·omega
    ·omega
  ·have d2 := c5q c2
   have hfin : ((x.2.1.take k).filter (a1A r)) = (x.2.1.filter (a1A r)) := by rw [List.take_of_length_le (by omega)]
   have hfl2 : ((x.2.1.take k).filter (a1A r)).length ≤ x.2.1.length := by rw [hfin]; exact hfl
   iterate 5 refine z ?_
   refine a0p ?_
   refine a3p 4 (oB := [2, 3, 6]) (oK := [9001]) (by kernel_rfl) rfl rfl ?_
   refine a1i 0 rfl (by kernel_rfl) rfl rfl (a2i hT rfl rfl (a0a rfl) rfl rfl) rfl rfl rfl rfl rfl ?_
   refine a1i 1 rfl (by kernel_rfl) rfl rfl (a4S hT rfl rfl rfl (a0a rfl)) rfl rfl rfl rfl rfl ?_
   refine a1i 2 rfl (by kernel_rfl) rfl rfl (a3C hT rfl rfl (a0a rfl) rfl rfl) rfl rfl rfl rfl rfl ?_
   refine a1i 3 rfl (by kernel_rfl) rfl rfl (a4H hT rfl rfl (a0a rfl)) rfl rfl rfl rfl rfl ?_
   refine a1i 4 rfl (by kernel_rfl) rfl rfl (a4S hT rfl rfl rfl (a0a rfl)) rfl rfl rfl rfl rfl ?_
   refine a1i 5 rfl (by kernel_rfl) rfl rfl (a3C hT rfl rfl (a0a rfl) rfl rfl) rfl rfl rfl rfl rfl ?_
   refine a1i 6 rfl (by kernel_rfl) rfl rfl (a3S (n := (((x.2.1.take k).filter (a1A r)).length)) hT rfl rfl (a0a rfl) rfl rfl) rfl rfl rfl rfl rfl ?_
   refine a1i 7 rfl (by kernel_rfl) rfl rfl (a8W rfl (a0a rfl) (a0a rfl) (a4c (by omega) (by omega))) rfl rfl rfl rfl rfl ?_
   refine a3t 8 rfl (by kernel_rfl) rfl hT rfl rfl rfl (a0a rfl) (a0a rfl) rfl rfl rfl rfl rfl rfl ?_
   refine a3s [9] rfl rfl (by kernel_rfl) ?_
   iterate 2 refine z ?_
   rw [b5a c1]
   refine a0r (σ' := ⟨[(4, .box 4 0), (5, .one (.dv [] (.int .i64 (((((x.2.1)).length : Int)) - (((((x.2.1.take k).filter (a1A r)).length) : Int))))))], [(4, 89, [(.dv [] (.str (x.1))), (.key 9001), (.dv [] (.int .i64 (x.2.2)))])], [(9001, some (a0d false (a0t (x.2.1.filter (a1A r)))))]⟩) (a0e ⟨rfl, rfl, trivial⟩ ⟨rfl, trivial⟩ ⟨(congrArg (fun l : List a0Q => some (some (KC.mk false 128 4 l.length (l.flatMap a0E)))) hfin), trivial⟩ rfl) ?_
   refine z ?_
   refine a1W (a0K hT rfl rfl rfl rfl) (a0B rfl) rfl rfl ?_
   exact ⟨by rw [hfin], rfl⟩
theorem a8e : ∀ x : List UInt8, Op.bytesLess x x = false
 | [] => rfl
 | a :: x => by simp [Op.bytesLess, a8e x]
theorem a6s : ∀ x y z : List UInt8, Op.bytesLess x y = true → Op.bytesLess y z = true → Op.bytesLess x z = true
 | x, [], z, h, _ => by cases x <;> simp [Op.bytesLess] at h
 | x, b :: y, [], _, h => by simp [Op.bytesLess] at h
 | [], b :: y, c :: z, _, _ => rfl
 | a :: x, b :: y, c :: z, h1, h2 => by
  simp only [Op.bytesLess, Bool.or_eq_true, decide_eq_true_eq, Bool.and_eq_true, beq_iff_eq] at h1 h2 ⊢
  rcases h1 with h1 | ⟨rfl, h1⟩
  ·rcases h2 with h2 | ⟨rfl, h2⟩
   ·exact .inl (UInt8.lt_trans h1 h2)
   ·exact .inl h1
  ·rcases h2 with h2 | ⟨rfl, h2⟩
   ·exact .inl h2
   ·exact .inr ⟨rfl, a6s x y z h1 h2⟩
def a2p (n : Str) : a0J → Nat
 | [] => 0
 | y :: ys => if sLt y.1 n then a2p n ys + 1 else 0
def a3A (l : a0J) (i : Nat) (v : Int) : a0J := l.set i ((l.getD i default).1, v)
def a2z (l : a0J) (j : Nat) (y : a3n) : a0J := l.take j ++ y :: l.drop j
def a5H (n : Str) (r : a0J) : Bool := decide (a2p n r < r.length) && sEq (r.getD (a2p n r) default).1 n
def a4A (r : a0J) (n : Str) (v : Int) : a0J := if a5H n r then a3A r (a2p n r) v else a2z r (a2p n r) (n, v)
def a1I (r : a0J) (n : Str) (v : Int) : a0J × Bool := if !a1C r || !a1C (a4A r n v) then (r, false) else (a4A r n v, true)
theorem b0u {r o : a0J} {n : Str} {v : Int} (ho : a1C r = true → o = a4A r n v) (h : (!a1C r || !a1C o) = true) : a1I r n v = (r, false) := by
 unfold a1I
 by_cases hr : a1C r = true
 ·rw [← ho hr, if_pos h]
 ·rw [if_pos (by simp [hr])]
theorem a9S {r o : a0J} {n : Str} {v : Int} (ho : a1C r = true → o = a4A r n v) (h : (!a1C r || !a1C o) = false) : a1I r n v = (o, true) := by
 have hr : a1C r = true := by cases hh : a1C r <;> simp_all
 rw [a1I, ← ho hr, if_neg (by rw [h]; simp)]
theorem b3a {l : a0J} {j : Nat} (h : j < l.length) : l.drop j = l.getD j default :: l.drop (j + 1) := by
 rw [List.drop_eq_getElem_cons h]
 simp [List.getD, List.getElem?_eq_getElem h]
def srt : a0J → Prop
 | [] => True
 | y :: ys => (∀ z ∈ ys, sLt y.1 z.1 = true) ∧ srt ys
theorem b4S {r : a0J} (h : a1C r = true) (i : Nat) (hi : i + 1 < r.length) : sLt (r.getD i default).1 (r.getD (i + 1) default).1 = true := by
 rw [a1C, Bool.and_eq_true, List.all_eq_true] at h
 have := h.1 (i + 1) (List.mem_range.2 hi)
 simp only [a4P, Bool.not_eq_true', Bool.or_eq_false_iff, Int.toNat_natCast] at this
 have h2 := this.2
 rw [decide_eq_true (by omega : (0 : Int) < ((i + 1 : Nat) : Int)), Bool.true_and, a7e, show (((i + 1 : Nat) : Int) - 1).toNat = i by omega] at h2
 simpa using h2
theorem b3z : ∀ (l : a0J), (∀ i, i + 1 < l.length → sLt (l.getD i default).1 (l.getD (i + 1) default).1 = true) → srt l
 | [], _ => trivial
 | [y], _ => ⟨by simp, trivial⟩
 | y :: z :: l, h => by
  have ih := b3z (z :: l) (fun i hi => by have := h (i + 1) (by simp only [List.length_cons] at hi ⊢; omega); simpa using this)
  have h0 : sLt y.1 z.1 = true := by simpa using h 0 (by simp)
  refine ⟨fun u hu => ?_, ih⟩
  rcases List.mem_cons.1 hu with rfl | hu
  ·exact h0
  ·exact a6s _ _ _ h0 (ih.1 u hu)
theorem b6Q {a b n : Str} (h : sEq a b = true) : sLt n a = sLt n b ∧ sLt a n = sLt b n := by
 have : a.toList = b.toList := by simpa [sEq] using h
 exact ⟨by unfold sLt; rw [this], by unfold sLt; rw [this]⟩
theorem b1W {n : Str} : ∀ (r : a0J) (i : Int), 0 ≤ i → srt r → (∃ k : Nat, k < r.length ∧ a0q (a2d n) r i = i + (k : Int) ∧ a2p n r = k ∧ sEq (r.getD k default).1 n = true) ∨ (a0q (a2d n) r i = -1 ∧ a5H n r = false)
 | [], i, _, _ => .inr ⟨rfl, rfl⟩
 | y :: ys, i, hi, hs => by
  by_cases he : sEq y.1 n = true
  ·refine .inl ⟨0, by simp, by rw [a0q, if_pos (show a2d n y = true from he)]; simp, ?_, by simpa using he⟩
   rw [a2p, if_neg]
   rw [(b6Q (n := n) he).2]
   simp [sLt, a8e]
  ·have hf : a0q (a2d n) (y :: ys) i = a0q (a2d n) ys (i + 1) := by rw [a0q, if_neg (show ¬ a2d n y = true from he)]
   by_cases hl : sLt y.1 n = true
   ·rcases b1W ys (i + 1) (by omega) hs.2 with ⟨k, h1, h2, h3, h4⟩ | ⟨h1, h2⟩
    ·exact .inl ⟨k + 1, by simpa using h1, by rw [hf, h2]; omega, by rw [a2p, if_pos hl, h3], by simpa using h4⟩
    ·refine .inr ⟨by rw [hf, h1], ?_⟩
     unfold a5H at h2 ⊢
     rw [a2p, if_pos hl]
     simpa using h2
   ·refine .inr ⟨?_, ?_⟩
    ·rw [hf]
     rcases b1q (p := a2d n) (d := default) ys (i + 1) (by omega) with ⟨h1, _⟩ | ⟨m, h1, _, _, h4⟩
     ·exact h1
     ·exfalso
      have hm : ys.getD m default ∈ ys := by simp [List.getD, List.getElem?_eq_getElem h1]
      have := hs.1 _ hm
      rw [(b6Q (n := y.1) h4).1] at this
      exact hl this
    ·unfold a5H
     rw [a2p, if_neg hl]
     simp [he]
theorem b4H {r : a0J} {n : Str} {v : Int} (hr : a1C r = true) (h : 0 ≤ a0q (a2d n) r 0) : a3A r (a0q (a2d n) r 0).toNat v = a4A r n v := by
 rcases b1W (n := n) r 0 (by omega) (b3z r (b4S hr)) with ⟨k, h1, h2, h3, h4⟩ | ⟨h1, _⟩
 ·have hh : a5H n r = true := by unfold a5H; rw [h3, h4, decide_eq_true h1]; rfl
  rw [a4A, if_pos hh, h3, h2]
  congr 1; omega
 ·omega
theorem b3L {r : a0J} {n : Str} {v : Int} {j : Nat} (hr : a1C r = true) (h : ¬ 0 ≤ a0q (a2d n) r 0) (hj : a2p n r = j) : a2z r j (n, v) = a4A r n v := by
 rcases b1W (n := n) r 0 (by omega) (b3z r (b4S hr)) with ⟨k, h1, h2, h3, h4⟩ | ⟨_, h1⟩
 ·omega
 ·rw [a4A, if_neg (by rw [h1]; simp), hj]
theorem b4R {r : a0J} {n : Str} {v : Int} {j : Nat} (hj : a2p n r = j) (h : (decide ((j : Int) < (r.length : Int)) && sEq (r.getD (j : Int).toNat default).1 n) = true) : a3A r j v = a4A r n v := by
 have hh : a5H n r = true := by
  rw [Bool.and_eq_true, decide_eq_true_eq, Int.toNat_natCast] at h
  unfold a5H; rw [hj, h.2, decide_eq_true (by omega)]; rfl
 rw [a4A, if_pos hh, hj]
theorem b4z {r : a0J} {n : Str} {v : Int} {j : Nat} (hj : a2p n r = j) (h : (decide ((j : Int) < (r.length : Int)) && sEq (r.getD (j : Int).toNat default).1 n) = false) : a2z r j (n, v) = a4A r n v := by
 have hh : a5H n r = false := by
  rw [Int.toNat_natCast] at h
  unfold a5H; rw [hj]
  by_cases hl : j < r.length
  ·rw [decide_eq_true (by omega : (j : Int) < (r.length : Int))] at h; rw [decide_eq_true hl]; exact h
  ·rw [decide_eq_false hl]; rfl
 rw [a4A, if_neg (by rw [hh]; simp), hj]
theorem b4a {n : Str} {l : a0J} {j : Nat} (hp : a2p n l = j + a2p n (l.drop j)) (h : (decide ((j : Int) < (l.length : Int)) && sLt (l.getD (j : Int).toNat default).1 n) = true) : j < l.length ∧ a2p n l = (j + 1) + a2p n (l.drop (j + 1)) := by
 obtain ⟨h1, h2⟩ := (Bool.and_eq_true _ _ ▸ h : _ ∧ _)
 have h1 := c5p h1
 rw [Int.toNat_natCast] at h2
 have h3 : j < l.length := by omega
 refine ⟨h3, ?_⟩
 rw [hp, b3a h3, a2p, if_pos h2]
 omega
theorem b6q {n : Str} {l : a0J} {j : Nat} (hj : j ≤ l.length) (hp : a2p n l = j + a2p n (l.drop j)) (h : (decide ((j : Int) < (l.length : Int)) && sLt (l.getD (j : Int).toNat default).1 n) = false) : a2p n l = j := by
 rcases Nat.lt_or_ge j l.length with h3 | h3
 ·rw [decide_eq_true (by omega : (j : Int) < (l.length : Int)), Bool.true_and, Int.toNat_natCast] at h
  rw [hp, b3a h3, a2p, if_neg (by rw [h]; simp)]
  omega
 ·rw [hp, List.drop_eq_nil_of_le h3, a2p]; omega
theorem b2z (l : a0J) : (l.flatMap a1k).length = l.length * 2 := a4W (enc := a1k) (sz := 2) (fun _ => rfl) l
theorem b2x {l : a0J} {i : Nat} {v : Int} : (a3A l i v).length = l.length := by simp [a3A]
theorem b8d {l : a0J} {i : Nat} {v : Int} (hi : i < l.length) : a1c (i * 2 + 1) [DV.int .i64 v] (l.flatMap a1k) = (a3A l i v).flatMap a1k := by
 have e : l.flatMap a1k = (l.take i).flatMap a1k ++ (a1k (l.getD i default) ++ (l.drop (i + 1)).flatMap a1k) := by
  rw [← List.flatMap_cons, ← b3a hi, ← List.flatMap_append, List.take_append_drop]
 have e2 : (a3A l i v).flatMap a1k = (l.take i).flatMap a1k ++ (a1k ((l.getD i default).1, v) ++ (l.drop (i + 1)).flatMap a1k) := by
  rw [a3A, List.set_eq_take_append_cons_drop, if_pos hi, List.flatMap_append, List.flatMap_cons]
 have hl : ((l.take i).flatMap a1k).length = i * 2 := by rw [b2z, c5t]; omega
 rw [e, e2]
 exact a1S (pre := (l.take i).flatMap a1k) (B := a1k (l.getD i default)) (B' := a1k ((l.getD i default).1, v)) (post := (l.drop (i + 1)).flatMap a1k) (m := i * 2) (off := i * 2 + 1) (j := 1) hl rfl rfl (Nat.le_refl _)
theorem b4s {l : a0J} {j : Nat} {y : a3n} : (a2z l j y).length = l.length + 1 := by simp [a2z]; omega
theorem c2Z {o : a0J} {j : Nat} {y : a3n} : a5V (o.flatMap a1k) ((j : Int).toNat * 2) (a1k y) = (a2z o j y).flatMap a1k := by
 obtain ⟨h1, h2⟩ := a6Z (enc := a1k) (sz := 2) (fun _ => rfl) j o
 rw [Int.toNat_natCast, a5V, a2z, List.flatMap_append, List.flatMap_cons, h1, h2, List.append_assoc]
theorem b1h (r : a0J) (n : Str) (v : Int) : (a1I r n v).1.length ≤ r.length + 1 := by
 unfold a1I a4A
 repeat' split
 all_goals first | (show r.length ≤ _; omega) | (simp only [b2x, b4s]; omega)
theorem b0A {r : a0J} {n : Str} {v : Int} (hb : r.length ≤ 1099511627776) : KFn Tryz.prog 142 [.agg [(.dv [] (a0z (r)))], .one (.dv [] (.str (n))), .one (.dv [] (.int .i64 (v)))] (.tup [(true, [(.key 9001)]), (false, [(.dv [] (.bool ((a1I r n v).2)))])]) [(9001, some (a0d false (a0z ((a1I r n v).1))))] := by
 refine ⟨a0u Tryz.func142 rfl Tryz.ntmps142 Tryz.results142 rfl (fun C => ?_)⟩
 refine yF 0 0 rfl rfl fun f0_0 => ?_
 refine a0G (x := .tmp 1) (a0a rfl) fun f1 => ?_
 refine a0G (x := .tmp 2) (a0a rfl) fun f2 => ?_
 iterate 7 refine z ?_
 refine zK 8998 Tryz.call131 ?_ (hf := a7g (x := r) (by omega))
 iterate 7 refine z ?_
 refine zC Tryz.call137 ?_ (hf := b4r (x := r) (n := n) )
 iterate 6 refine z ?_
 refine yQ rfl (fun c1 => ?_) fun c1 => ?_
 ·have d1 := c5p c1
  have hlt : (a0q (a2d n) r 0).toNat < r.length := by have := a7W (p := a2d n) r 0 (by omega); omega
  refine a0j ?_
  iterate 4 refine z ?_
  refine yO rfl rfl (a1q (i := (a0q (a2d (n)) (r) 0).toNat) hT rfl rfl rfl (a0a rfl) rfl (a0a rfl) (by omega) (by show _ < ((r)).length; omega)) rfl ?_
  refine z ?_
  refine a1u (js := []) (cs := (a3A r (a0q (a2d n) r 0).toNat v).flatMap a1k) hT rfl rfl rfl rfl (a0a rfl) (a0a rfl) rfl rfl rfl rfl (a0o (a0C rfl) a1e rfl) (by decide) (by decide) rfl (by show _ ≤ List.length ((r).flatMap a1k); rw [b2z]; omega) (b8d (by omega)) ?_
  simp only [a0i, a0h, SV.kill, CV.kill, kk, Nat.reduceBEq]
  refine z ?_
  refine a0p ?_
  refine a0p ?_
  refine a0r (a5S (k := 9001) (c' := a0d false (a0z (a3A r (a0q (a2d n) r 0).toNat v))) rfl (congrArg (fun m => KC.mk false 161 2 m ((a3A r (a0q (a2d n) r 0).toNat v).flatMap a1k)) b2x.symm) rfl) ?_
  refine a0j ?_
  refine z ?_
  refine zC Tryz.call103 ?_ (hf := a8M (r := r) )
  iterate 3 refine z ?_
  refine a1t (a1l rfl rfl rfl rfl rfl) rfl rfl Tryz.call103 (a8M (r := a3A r (a0q (a2d n) r 0).toNat v) ) (fun hg => (a0f (a0x rfl hg) (a0l (a0c (a0L rfl rfl) a0m)) a0n)) rfl rfl ?_
  iterate 3 refine z ?_
  refine yQ rfl (fun c2 => ?_) fun c2 => ?_
  ·refine a0p ?_
   refine a0r (σ' := ⟨[(3, .box 3 0), (6, .box 6 0), (7, .one (.dv [] (.bool (false))))], [(3, 109, [(.dv [] (a0z (r)))]), (6, 109, [.nil])], []⟩) (a0e ⟨rfl, rfl, rfl, trivial⟩ ⟨rfl, rfl, trivial⟩ trivial rfl) ?_
   refine a0j ?_
   refine z ?_
   refine zK 8998 Tryz.call131 ?_ (hf := a7g (x := r) (by omega))
   iterate 3 refine z ?_
   rw [b0u (fun hr => b4H hr d1) c2]
   refine a0r (σ' := ⟨[(6, .box 6 0), (7, .one (.dv [] (.bool (false))))], [(6, 109, [(.key 9001)])], [(9001, some (a0d false (a0z (r))))]⟩) (a0e ⟨rfl, rfl, trivial⟩ ⟨rfl, trivial⟩ ⟨rfl, trivial⟩ rfl) ?_
   iterate 2 refine z ?_
   refine a1W (a0K hT rfl rfl rfl rfl) (a0B rfl) rfl rfl ?_
   first | exact ⟨rfl, rfl⟩ | skip
  ·iterate 7 refine z ?_
   rw [a9S (fun hr => b4H hr d1) c2]
   refine a0r (σ' := ⟨[(6, .box 6 0), (7, .one (.dv [] (.bool (true))))], [(6, 109, [(.key 9001)])], [(9001, some (a0d false (a0z (a3A r (a0q (a2d n) r 0).toNat v))))]⟩) (a0e ⟨rfl, rfl, trivial⟩ ⟨rfl, trivial⟩ ⟨rfl, trivial⟩ rfl) ?_
   refine z ?_
   refine a1W (a0K hT rfl rfl rfl rfl) (a0B rfl) rfl rfl ?_
   first | exact ⟨rfl, rfl⟩ | skip
 ·have d1 := c5q c1
  iterate 5 refine z ?_
  refine a0W (ι := Nat) (fun zz => ⟨[(1, .one (.dv [] (.str (n)))), (2, .one (.dv [] (.int .i64 (v)))), (3, .box 3 0), (6, .box 6 0), (7, .one (.dv [] (.bool (false)))), (8, .box 8 0), (10, .one (.dv [] (.int .i64 ((zz : Int)))))], [(3, 109, [(.dv [] (a0z (r)))]), (6, 109, [.nil]), (8, 109, [(.key 9001)])], [(9001, some (a0d false (.sl 161 2 (r.length) (r.flatMap a1k))))]⟩) (fun zz => zz ≤ r.length ∧ a2p n r = zz + a2p n (r.drop zz)) (fun zz => r.length - zz) (0) ?_ (a0e ⟨rfl, rfl, rfl, rfl, rfl, rfl, rfl, trivial⟩ ⟨rfl, rfl, rfl, trivial⟩ ⟨rfl, trivial⟩ rfl) (fun zz hx => ?_)
  ·exact ⟨Nat.zero_le _, by simp⟩
  obtain ⟨j, rfl⟩ : ∃ v, v = zz := ⟨_, rfl⟩
  replace hx : j ≤ r.length ∧ a2p n r = j + a2p n (r.drop j) := hx
  obtain ⟨hj, hp⟩ := hx
  show Ok _ _ _ _ _ (⟨[(1, .one (.dv [] (.str (n)))), (2, .one (.dv [] (.int .i64 (v)))), (3, .box 3 0), (6, .box 6 0), (7, .one (.dv [] (.bool (false)))), (8, .box 8 0), (10, .one (.dv [] (.int .i64 ((j : Int)))))], [(3, 109, [(.dv [] (a0z (r)))]), (6, 109, [.nil]), (8, 109, [(.key 9001)])], [(9001, some (a0d false (.sl 161 2 (r.length) (r.flatMap a1k))))]⟩ : St)
  iterate 4 refine z ?_
  refine yO rfl rfl (a8F (dd := a0z r) (a3C hT rfl rfl (a0a rfl) rfl rfl) rfl rfl) rfl ?_
  iterate 4 refine z ?_
  refine a8V (a1l rfl rfl rfl rfl rfl) rfl (fun hg => a8F (dd := a0z r) (a3C hT rfl rfl (a0x rfl hg) rfl rfl) rfl rfl) rfl rfl ?_
  iterate 8 refine z ?_
  refine yQ rfl (fun c3 => ?_) fun c3 => ?_
  ·have hst := b4a hp c3
   have hst1 := hst.1
   iterate 3 refine z ?_
   refine a0j ?_
   iterate 3 refine z ?_
   refine a1j ?_
   iterate 2 refine z ?_
   refine ⟨j + 1, ?_, ?_, a0e ⟨rfl, rfl, rfl, rfl, rfl, rfl, rfl, trivial⟩ ⟨rfl, rfl, rfl, trivial⟩ ⟨rfl, trivial⟩ rfl⟩
   ·exact ⟨by omega, hst.2⟩
   ·omega
  ·have hpos := b6q hj hp c3
   iterate 5 refine z ?_
   refine a0j ?_
   iterate 5 refine z ?_
   refine yO rfl rfl (a2s hT hB rfl rfl rfl (a1x (a0a rfl) rfl rfl rfl rfl rfl (a1x (a0a rfl) rfl rfl rfl rfl rfl a2o))) rfl ?_
   refine a6n (k := 47) (js := []) hT rfl rfl rfl rfl rfl rfl rfl rfl rfl (a0a rfl) rfl rfl (a0o (a0C rfl) (a0o (a0C rfl) a1e rfl) rfl) (by decide) (by decide) rfl rfl ?_
   simp only [a0i, a0h, SV.kill, CV.kill, kk, Nat.reduceBEq]
   refine b1A (k := 9001) (j := 47) (cs := (a2z r j (n, v)).flatMap a1k) (n := (a2z r j (n, v)).length) (b8w rfl rfl (by decide)) rfl rfl Tryz.call163 rfl rfl (a0a rfl) rfl rfl rfl (a0a rfl) (by omega) (by dsimp only [a0d]; omega) (a0a rfl) rfl rfl rfl rfl (by decide) (by dsimp only [a0d]; omega) (by dsimp only [a0d]; omega) (by rw [b4s]) (c2Z (o := r) (j := j) (y := (n, v))) ?_
   simp only [a0i, a0h, SV.kill, CV.kill, kk, Nat.reduceBEq]
   iterate 3 refine z ?_
   refine a0p ?_
   refine a0p ?_
   refine a0r (a5S (k := 9001) (c' := a0d false (a0z (a2z r j (n, v)))) rfl (rfl) rfl) ?_
   refine a0j ?_
   refine z ?_
   refine zC Tryz.call103 ?_ (hf := a8M (r := r) )
   iterate 3 refine z ?_
   refine a1t (a1l rfl rfl rfl rfl rfl) rfl rfl Tryz.call103 (a8M (r := a2z r j (n, v)) ) (fun hg => (a0f (a0x rfl hg) (a0l (a0c (a0L rfl rfl) a0m)) a0n)) rfl rfl ?_
   iterate 3 refine z ?_
   refine yQ rfl (fun c4 => ?_) fun c4 => ?_
   ·refine a0p ?_
    refine a0r (σ' := ⟨[(3, .box 3 0), (6, .box 6 0), (7, .one (.dv [] (.bool (false))))], [(3, 109, [(.dv [] (a0z (r)))]), (6, 109, [.nil])], []⟩) (a0e ⟨rfl, rfl, rfl, trivial⟩ ⟨rfl, rfl, trivial⟩ trivial rfl) ?_
    refine a0j ?_
    refine z ?_
    refine zK 8998 Tryz.call131 ?_ (hf := a7g (x := r) (by omega))
    iterate 3 refine z ?_
    rw [b0u (fun hr => b3L hr d1 hpos) c4]
    refine a0r (σ' := ⟨[(6, .box 6 0), (7, .one (.dv [] (.bool (false))))], [(6, 109, [(.key 9001)])], [(9001, some (a0d false (a0z (r))))]⟩) (a0e ⟨rfl, rfl, trivial⟩ ⟨rfl, trivial⟩ ⟨rfl, trivial⟩ rfl) ?_
    iterate 2 refine z ?_
    refine a1W (a0K hT rfl rfl rfl rfl) (a0B rfl) rfl rfl ?_
    first | exact ⟨rfl, rfl⟩ | skip
   ·iterate 7 refine z ?_
    rw [a9S (fun hr => b3L hr d1 hpos) c4]
    refine a0r (σ' := ⟨[(6, .box 6 0), (7, .one (.dv [] (.bool (true))))], [(6, 109, [(.key 9001)])], [(9001, some (a0d false (a0z (a2z r j (n, v)))))]⟩) (a0e ⟨rfl, rfl, trivial⟩ ⟨rfl, trivial⟩ ⟨rfl, trivial⟩ rfl) ?_
    refine z ?_
    refine a1W (a0K hT rfl rfl rfl rfl) (a0B rfl) rfl rfl ?_
    first | exact ⟨rfl, rfl⟩ | skip
theorem b8s {r : a0J} {n : Str} {v : Int} (hb : r.length ≤ 1099511627776) : KFn Tryz.prog 150 [.agg [(.dv [] (a0z (r)))], .one (.dv [] (.str (n))), .one (.dv [] (.int .i64 (v)))] (.tup [(true, [(.key 9001)]), (false, [(.dv [] (.bool ((a1I r n v).2)))])]) [(9001, some (a0d false (a0z ((a1I r n v).1))))] := by
 refine ⟨a0u Tryz.func150 rfl Tryz.ntmps150 Tryz.results150 rfl (fun C => ?_)⟩
 refine yF 0 0 rfl rfl fun f0_0 => ?_
 refine a0G (x := .tmp 1) (a0a rfl) fun f1 => ?_
 refine a0G (x := .tmp 2) (a0a rfl) fun f2 => ?_
 iterate 7 refine z ?_
 refine zK 8998 Tryz.call88 ?_ (hf := a7m (x := r) (by omega))
 iterate 8 refine z ?_
 refine a0W (ι := Nat) (fun zz => ⟨[(1, .one (.dv [] (.str (n)))), (2, .one (.dv [] (.int .i64 (v)))), (3, .box 3 0), (6, .box 6 0), (7, .one (.dv [] (.bool (false)))), (8, .box 8 0), (9, .one (.dv [] (.int .i64 ((zz : Int)))))], [(3, 109, [(.dv [] (a0z (r)))]), (6, 109, [.nil]), (8, 109, [(.key 9001)])], [(9001, some (a0d false (.sl 161 2 (r.length) (r.flatMap a1k))))]⟩) (fun zz => zz ≤ r.length ∧ a2p n r = zz + a2p n (r.drop zz)) (fun zz => r.length - zz) (0) ?_ (a0e ⟨rfl, rfl, rfl, rfl, rfl, rfl, rfl, trivial⟩ ⟨rfl, rfl, rfl, trivial⟩ ⟨rfl, trivial⟩ rfl) (fun zz hx => ?_)
 ·exact ⟨Nat.zero_le _, by simp⟩
 obtain ⟨j, rfl⟩ : ∃ v, v = zz := ⟨_, rfl⟩
 replace hx : j ≤ r.length ∧ a2p n r = j + a2p n (r.drop j) := hx
 obtain ⟨hj, hp⟩ := hx
 show Ok _ _ _ _ _ (⟨[(1, .one (.dv [] (.str (n)))), (2, .one (.dv [] (.int .i64 (v)))), (3, .box 3 0), (6, .box 6 0), (7, .one (.dv [] (.bool (false)))), (8, .box 8 0), (9, .one (.dv [] (.int .i64 ((j : Int)))))], [(3, 109, [(.dv [] (a0z (r)))]), (6, 109, [.nil]), (8, 109, [(.key 9001)])], [(9001, some (a0d false (.sl 161 2 (r.length) (r.flatMap a1k))))]⟩ : St)
 iterate 18 refine z ?_
 refine yQ rfl (fun c1 => ?_) fun c1 => ?_
 ·have hst := b4a hp c1
  have hst1 := hst.1
  iterate 3 refine z ?_
  refine a0j ?_
  iterate 3 refine z ?_
  refine a1j ?_
  iterate 2 refine z ?_
  refine ⟨j + 1, ?_, ?_, a0e ⟨rfl, rfl, rfl, rfl, rfl, rfl, rfl, trivial⟩ ⟨rfl, rfl, rfl, trivial⟩ ⟨rfl, trivial⟩ rfl⟩
  ·exact ⟨by omega, hst.2⟩
  ·omega
 ·have hpos := b6q hj hp c1
  iterate 23 refine z ?_
  refine yQ rfl (fun c2 => ?_) fun c2 => ?_
  ·have hlt : j < r.length := by have h8 := c2; rw [Bool.and_eq_true, decide_eq_true_eq] at h8; omega
   refine a0j ?_
   iterate 4 refine z ?_
   refine yO rfl rfl (a1q (i := j) hT rfl rfl rfl (a0a rfl) rfl (a0a rfl) rfl (by show _ < (r.length); omega)) rfl ?_
   refine z ?_
   refine a1u (js := []) (cs := (a3A r j v).flatMap a1k) hT rfl rfl rfl rfl (a0a rfl) (a0a rfl) rfl rfl rfl rfl (a0o (a0C rfl) a1e rfl) (by decide) (by decide) rfl (by show _ ≤ List.length (r.flatMap a1k); rw [b2z]; omega) (b8d (by omega)) ?_
   simp only [a0i, a0h, SV.kill, CV.kill, kk, Nat.reduceBEq]
   refine z ?_
   refine a0p ?_
   refine a0p ?_
   refine a0r (a5S (k := 9001) (c' := a0d false (a0z (a3A r j v))) rfl (congrArg (fun m => KC.mk false 161 2 m ((a3A r j v).flatMap a1k)) b2x.symm) rfl) ?_
   refine a0j ?_
   refine z ?_
   refine zC Tryz.call90 ?_ (hf := a7M (r := r) )
   iterate 3 refine z ?_
   refine a1t (a1l rfl rfl rfl rfl rfl) rfl rfl Tryz.call90 (a7M (r := a3A r j v) ) (fun hg => (a0f (a0x rfl hg) (a0l (a0c (a0L rfl rfl) a0m)) a0n)) rfl rfl ?_
   iterate 3 refine z ?_
   refine yQ rfl (fun c3 => ?_) fun c3 => ?_
   ·refine a0p ?_
    refine a0r (σ' := ⟨[(3, .box 3 0), (6, .box 6 0), (7, .one (.dv [] (.bool (false))))], [(3, 109, [(.dv [] (a0z (r)))]), (6, 109, [.nil])], []⟩) (a0e ⟨rfl, rfl, rfl, trivial⟩ ⟨rfl, rfl, trivial⟩ trivial rfl) ?_
    refine a0j ?_
    refine z ?_
    refine zK 8998 Tryz.call88 ?_ (hf := a7m (x := r) (by omega))
    iterate 3 refine z ?_
    rw [b0u (fun _ => b4R hpos c2) c3]
    refine a0r (σ' := ⟨[(6, .box 6 0), (7, .one (.dv [] (.bool (false))))], [(6, 109, [(.key 9001)])], [(9001, some (a0d false (a0z (r))))]⟩) (a0e ⟨rfl, rfl, trivial⟩ ⟨rfl, trivial⟩ ⟨rfl, trivial⟩ rfl) ?_
    iterate 2 refine z ?_
    refine a1W (a0K hT rfl rfl rfl rfl) (a0B rfl) rfl rfl ?_
    first | exact ⟨rfl, rfl⟩ | skip
   ·iterate 7 refine z ?_
    rw [a9S (fun _ => b4R hpos c2) c3]
    refine a0r (σ' := ⟨[(6, .box 6 0), (7, .one (.dv [] (.bool (true))))], [(6, 109, [(.key 9001)])], [(9001, some (a0d false (a0z (a3A r j v))))]⟩) (a0e ⟨rfl, rfl, trivial⟩ ⟨rfl, trivial⟩ ⟨rfl, trivial⟩ rfl) ?_
    refine z ?_
    refine a1W (a0K hT rfl rfl rfl rfl) (a0B rfl) rfl rfl ?_
    first | exact ⟨rfl, rfl⟩ | skip
  ·refine c2v (σ' := ⟨[(3, .box 3 0), (6, .box 6 0), (7, .one (.dv [] (.bool (false)))), (8, .box 8 0)], [(3, 109, [(.dv [] (a0z (r)))]), (6, 109, [.nil]), (8, 109, [(.key 9050)])], [(9001, some (a0d false (.sl 161 2 (r.length) (r.flatMap a1k)))), (9050, some (a0d false (.sl 161 2 ((a2z r j (n, v)).length) ((a2z r j (n, v)).flatMap a1k))))]⟩) ?_ ?_
   ·refine a4G [0, 1, 2, 3, 4, 5, 6, 7, 8, 9, 10, 11, 12, 13, 14, 15, 16] (oB := [3, 6, 8]) (oK := [9001]) (by kernel_rfl) rfl rfl ?_
    refine b0W ?_
    refine zN 1 ?_
    refine zN 2 ?_
    refine zN 3 ?_
    refine a4y 4 rfl (by kernel_rfl) rfl rfl (a8T hT rfl rfl rfl (a0a rfl) (a0a rfl) (fun _ => rfl) (by omega) (by omega)) rfl rfl rfl rfl ?_
    refine zN 6 ?_
    refine zN 7 ?_
    refine a4y 8 rfl (by kernel_rfl) rfl rfl (a2s hT hB rfl rfl rfl (a1x (a0a rfl) rfl rfl rfl rfl rfl (a1x (a0a rfl) rfl rfl rfl rfl rfl a2o))) rfl rfl rfl rfl ?_
    refine zN 11 ?_
    refine zN 12 ?_
    refine zN 13 ?_
    refine a4y 14 rfl (by kernel_rfl) rfl rfl (b8m hT rfl rfl rfl (a0a rfl) (a0a rfl) (fun _ => rfl) (by omega) (by omega)) rfl rfl rfl rfl ?_
    refine a1J 0 [9] (by kernel_rfl) ⟨?_, ?_, trivial⟩
    ·refine a6v (k := 9050) 0 hT rfl rfl rfl rfl rfl rfl rfl rfl rfl rfl rfl rfl ?_
     refine a1J 5 [9] (by kernel_rfl) ⟨?_, ?_, trivial⟩
     ·refine a2T (k := 9050) (cs := (r.take j).flatMap a1k) (n := (r.take j).length) 5 hT rfl rfl rfl rfl rfl rfl rfl rfl (a0a rfl) rfl rfl rfl (a0a rfl) (a3e (fun _ => rfl) _) (by dsimp only [a0d]; simp only [c5t]; omega) (by dsimp only [a0d]; simp only [c5t]; omega) (Nat.zero_add _) (rfl) rfl rfl ?_
      simp only [a0i, a0h, SV.kill, CV.kill, kk, Nat.reduceBEq]
      refine a1J 9 [] (by kernel_rfl) ⟨?_, trivial⟩
      ·refine a8K (k := 9059) (js := []) 9 hT rfl rfl rfl rfl rfl rfl rfl rfl rfl rfl rfl rfl (a4V (a0a rfl) rfl rfl rfl a4Z) (a0o (a0C rfl) (a0o (a0C rfl) a1e rfl) rfl) (by decide) (by decide) rfl rfl rfl rfl rfl ?_
       simp only [a0i, a0h, SV.kill, CV.kill, kk, Nat.reduceBEq]
       refine a1J 10 [] (by kernel_rfl) ⟨?_, trivial⟩
       ·refine a2T (k := 9050) (cs := ((r.take j) ++ [(n, v)]).flatMap a1k) (n := ((r.take j) ++ [(n, v)]).length) (m := 1) (ds := [.str (n), .int .i64 (v)]) 10 hT rfl rfl rfl rfl rfl rfl rfl rfl (a0a rfl) rfl rfl rfl (a2X (a0a rfl) rfl rfl) rfl (by dsimp only [a0d]; simp only [c5t]; omega) (by dsimp only [a0d]; simp only [c5t]; omega) (by simp) (by rw [List.flatMap_append]; rfl) rfl rfl ?_
        simp only [a0i, a0h, SV.kill, CV.kill, kk, Nat.reduceBEq]
        refine a1J 15 [] (by kernel_rfl) ⟨?_, trivial⟩
        ·refine a2T (k := 9050) (cs := (a2z r j (n, v)).flatMap a1k) (n := (a2z r j (n, v)).length) 15 hT rfl rfl rfl rfl rfl rfl rfl rfl (a0a rfl) rfl rfl rfl (a0a rfl) (a3e (fun _ => rfl) _) (by dsimp only [a0d]; simp only [c5s, c5t, List.length_drop, List.length_singleton]; omega) (by dsimp only [a0d]; simp only [c5s, c5t, List.length_drop, List.length_singleton]; omega) (by simp [a2z]; omega) (by rw [← List.flatMap_append, a2z, List.append_assoc]; rfl) rfl rfl ?_
         simp only [a0i, a0h, SV.kill, CV.kill, kk, Nat.reduceBEq]
         refine zN 16 ?_
         refine a1J 17 [] (by kernel_rfl) ⟨?_, trivial⟩
         ·refine a5Y 17 rfl rfl (by kernel_rfl) (a4E hT rfl rfl rfl (a0a rfl) (a0a rfl) rfl rfl rfl rfl rfl rfl) (by kernel_rfl) ?_
          exact a3W (a0e ⟨rfl, rfl, rfl, rfl, trivial⟩ ⟨rfl, rfl, rfl, trivial⟩ ⟨rfl, rfl, trivial⟩ rfl)
     ·refine a8K (k := 9059) (js := []) 9 hT rfl rfl rfl rfl rfl rfl rfl rfl rfl rfl rfl rfl (a4V (a0a rfl) rfl rfl rfl a4Z) (a0o (a0C rfl) (a0o (a0C rfl) a1e rfl) rfl) (by decide) (by decide) rfl rfl rfl rfl rfl ?_
      simp only [a0i, a0h, SV.kill, CV.kill, kk, Nat.reduceBEq]
      refine a1J 5 [] (by kernel_rfl) ⟨?_, trivial⟩
      ·refine a2T (k := 9050) (cs := (r.take j).flatMap a1k) (n := (r.take j).length) 5 hT rfl rfl rfl rfl rfl rfl rfl rfl (a0a rfl) rfl rfl rfl (a0a rfl) (a3e (fun _ => rfl) _) (by dsimp only [a0d]; simp only [c5t]; omega) (by dsimp only [a0d]; simp only [c5t]; omega) (Nat.zero_add _) (rfl) rfl rfl ?_
       simp only [a0i, a0h, SV.kill, CV.kill, kk, Nat.reduceBEq]
       refine a1J 10 [] (by kernel_rfl) ⟨?_, trivial⟩
       ·refine a2T (k := 9050) (cs := ((r.take j) ++ [(n, v)]).flatMap a1k) (n := ((r.take j) ++ [(n, v)]).length) (m := 1) (ds := [.str (n), .int .i64 (v)]) 10 hT rfl rfl rfl rfl rfl rfl rfl rfl (a0a rfl) rfl rfl rfl (a2X (a0a rfl) rfl rfl) rfl (by dsimp only [a0d]; simp only [c5t]; omega) (by dsimp only [a0d]; simp only [c5t]; omega) (by simp) (by rw [List.flatMap_append]; rfl) rfl rfl ?_
        simp only [a0i, a0h, SV.kill, CV.kill, kk, Nat.reduceBEq]
        refine a1J 15 [] (by kernel_rfl) ⟨?_, trivial⟩
        ·refine a2T (k := 9050) (cs := (a2z r j (n, v)).flatMap a1k) (n := (a2z r j (n, v)).length) 15 hT rfl rfl rfl rfl rfl rfl rfl rfl (a0a rfl) rfl rfl rfl (a0a rfl) (a3e (fun _ => rfl) _) (by dsimp only [a0d]; simp only [c5s, c5t, List.length_drop, List.length_singleton]; omega) (by dsimp only [a0d]; simp only [c5s, c5t, List.length_drop, List.length_singleton]; omega) (by simp [a2z]; omega) (by rw [← List.flatMap_append, a2z, List.append_assoc]; rfl) rfl rfl ?_
         simp only [a0i, a0h, SV.kill, CV.kill, kk, Nat.reduceBEq]
         refine zN 16 ?_
         refine a1J 17 [] (by kernel_rfl) ⟨?_, trivial⟩
         ·refine a5Y 17 rfl rfl (by kernel_rfl) (a4E hT rfl rfl rfl (a0a rfl) (a0a rfl) rfl rfl rfl rfl rfl rfl) (by kernel_rfl) ?_
          exact a3W (a0e ⟨rfl, rfl, rfl, rfl, trivial⟩ ⟨rfl, rfl, rfl, trivial⟩ ⟨rfl, rfl, trivial⟩ rfl)
    ·refine a8K (k := 9059) (js := []) 9 hT rfl rfl rfl rfl rfl rfl rfl rfl rfl rfl rfl rfl (a4V (a0a rfl) rfl rfl rfl a4Z) (a0o (a0C rfl) (a0o (a0C rfl) a1e rfl) rfl) (by decide) (by decide) rfl rfl rfl rfl rfl ?_
     simp only [a0i, a0h, SV.kill, CV.kill, kk, Nat.reduceBEq]
     refine a1J 0 [] (by kernel_rfl) ⟨?_, trivial⟩
     ·refine a6v (k := 9050) 0 hT rfl rfl rfl rfl rfl rfl rfl rfl rfl rfl rfl rfl ?_
      refine a1J 5 [] (by kernel_rfl) ⟨?_, trivial⟩
      ·refine a2T (k := 9050) (cs := (r.take j).flatMap a1k) (n := (r.take j).length) 5 hT rfl rfl rfl rfl rfl rfl rfl rfl (a0a rfl) rfl rfl rfl (a0a rfl) (a3e (fun _ => rfl) _) (by dsimp only [a0d]; simp only [c5t]; omega) (by dsimp only [a0d]; simp only [c5t]; omega) (Nat.zero_add _) (rfl) rfl rfl ?_
       simp only [a0i, a0h, SV.kill, CV.kill, kk, Nat.reduceBEq]
       refine a1J 10 [] (by kernel_rfl) ⟨?_, trivial⟩
       ·refine a2T (k := 9050) (cs := ((r.take j) ++ [(n, v)]).flatMap a1k) (n := ((r.take j) ++ [(n, v)]).length) (m := 1) (ds := [.str (n), .int .i64 (v)]) 10 hT rfl rfl rfl rfl rfl rfl rfl rfl (a0a rfl) rfl rfl rfl (a2X (a0a rfl) rfl rfl) rfl (by dsimp only [a0d]; simp only [c5t]; omega) (by dsimp only [a0d]; simp only [c5t]; omega) (by simp) (by rw [List.flatMap_append]; rfl) rfl rfl ?_
        simp only [a0i, a0h, SV.kill, CV.kill, kk, Nat.reduceBEq]
        refine a1J 15 [] (by kernel_rfl) ⟨?_, trivial⟩
        ·refine a2T (k := 9050) (cs := (a2z r j (n, v)).flatMap a1k) (n := (a2z r j (n, v)).length) 15 hT rfl rfl rfl rfl rfl rfl rfl rfl (a0a rfl) rfl rfl rfl (a0a rfl) (a3e (fun _ => rfl) _) (by dsimp only [a0d]; simp only [c5s, c5t, List.length_drop, List.length_singleton]; omega) (by dsimp only [a0d]; simp only [c5s, c5t, List.length_drop, List.length_singleton]; omega) (by simp [a2z]; omega) (by rw [← List.flatMap_append, a2z, List.append_assoc]; rfl) rfl rfl ?_
         simp only [a0i, a0h, SV.kill, CV.kill, kk, Nat.reduceBEq]
         refine zN 16 ?_
         refine a1J 17 [] (by kernel_rfl) ⟨?_, trivial⟩
         ·refine a5Y 17 rfl rfl (by kernel_rfl) (a4E hT rfl rfl rfl (a0a rfl) (a0a rfl) rfl rfl rfl rfl rfl rfl) (by kernel_rfl) ?_
          exact a3W (a0e ⟨rfl, rfl, rfl, rfl, trivial⟩ ⟨rfl, rfl, rfl, trivial⟩ ⟨rfl, rfl, trivial⟩ rfl)
   refine a0p ?_
   refine a0p ?_
   refine a0r (a2D (b := 8) (i := 0) (k := 9050) (k' := 9001) rfl rfl rfl rfl (by decide) rfl rfl) ?_
   simp only [a0i, a0h, SV.kill, CV.kill, kk, Nat.reduceBEq]
   refine a0r (a5S (k := 9001) (c' := a0d false (a0z (a2z r j (n, v)))) rfl (rfl) rfl) ?_
   refine a0j ?_
   refine z ?_
   refine zC Tryz.call90 ?_ (hf := a7M (r := r) )
   iterate 3 refine z ?_
   refine a1t (a1l rfl rfl rfl rfl rfl) rfl rfl Tryz.call90 (a7M (r := a2z r j (n, v)) ) (fun hg => (a0f (a0x rfl hg) (a0l (a0c (a0L rfl rfl) a0m)) a0n)) rfl rfl ?_
   iterate 3 refine z ?_
   refine yQ rfl (fun c4 => ?_) fun c4 => ?_
   ·refine a0p ?_
    refine a0r (σ' := ⟨[(3, .box 3 0), (6, .box 6 0), (7, .one (.dv [] (.bool (false))))], [(3, 109, [(.dv [] (a0z (r)))]), (6, 109, [.nil])], []⟩) (a0e ⟨rfl, rfl, rfl, trivial⟩ ⟨rfl, rfl, trivial⟩ trivial rfl) ?_
    refine a0j ?_
    refine z ?_
    refine zK 8998 Tryz.call88 ?_ (hf := a7m (x := r) (by omega))
    iterate 3 refine z ?_
    rw [b0u (fun _ => b4z hpos c2) c4]
    refine a0r (σ' := ⟨[(6, .box 6 0), (7, .one (.dv [] (.bool (false))))], [(6, 109, [(.key 9001)])], [(9001, some (a0d false (a0z (r))))]⟩) (a0e ⟨rfl, rfl, trivial⟩ ⟨rfl, trivial⟩ ⟨rfl, trivial⟩ rfl) ?_
    iterate 2 refine z ?_
    refine a1W (a0K hT rfl rfl rfl rfl) (a0B rfl) rfl rfl ?_
    first | exact ⟨rfl, rfl⟩ | skip
   ·iterate 7 refine z ?_
    rw [a9S (fun _ => b4z hpos c2) c4]
    refine a0r (σ' := ⟨[(6, .box 6 0), (7, .one (.dv [] (.bool (true))))], [(6, 109, [(.key 9001)])], [(9001, some (a0d false (a0z (a2z r j (n, v)))))]⟩) (a0e ⟨rfl, rfl, trivial⟩ ⟨rfl, trivial⟩ ⟨rfl, trivial⟩ rfl) ?_
    refine z ?_
    refine a1W (a0K hT rfl rfl rfl rfl) (a0B rfl) rfl rfl ?_
    first | exact ⟨rfl, rfl⟩ | skip
end Go.Proofs.YteellmjlalgjaaaGreat
