/-
 Contracts of the program's functions for the statements Durable, by the rules of the logic. Conditions: none but those in the theorems.
-/
import Derived.Test.YtkhldpbfkagdhaaGreatQDU1
set_option maxHeartbeats 4000000
set_option maxRecDepth 100000
namespace Go.Proofs.YtkhldpbfkagdhaaGreat
open Go.RowKit
open Go.Proofs
set_option linter.unusedVariables false
set_option linter.unusedSimpArgs false
theorem b5m (a b : Str) : sEq a b = sEq b a := by unfold sEq; rw [Bool.eq_iff_iff, beq_iff_eq, beq_iff_eq]; exact ⟨Eq.symm, Eq.symm⟩
theorem b2h (a b : a3T) : a1W a b = a1W b a := by unfold a1W; rw [b5m a.1, b5m a.2]
theorem b7O {α : Type} {p : α → Bool} : ∀ (xs : List α) (i : Int), 0 ≤ i → xs.any p = true → i ≤ a0r p xs i
 | [], _, _, h => by simp at h
 | x :: xs, i, hi, h => by
 rw [a0r]
 split
 ·omega
 ·rename_i hp
  rw [List.any_cons] at h
  have hp' : p x = false := by simpa using hp
  rw [hp', Bool.false_or] at h
  have := b7O xs (i + 1) (by omega) h
  omega
theorem c0D {α : Type} {p : α → Bool} : ∀ (xs : List α) (i : Int), xs.any p = false → a0r p xs i = -1
 | [], _, _ => rfl
 | x :: xs, i, h => by
 simp only [List.any_cons, Bool.or_eq_false_iff] at h
 rw [a0r, if_neg (by rw [h.1]; simp)]
 exact c0D xs (i + 1) h.2
theorem b7X {α : Type} {p : α → Bool} (xs : List α) : decide (0 ≤ a0r p xs 0) = xs.any p := by
 cases h : xs.any p with
 | true => exact decide_eq_true (b7O xs 0 (by omega) h)
 | false => rw [c0D xs 0 h]; rfl
def a4Y (d : DbT) (k : Nat) : Bool := !a1i (d.2.2.1.getD (k : Int).toNat default) || (decide ((0 : Int) < (k : Int)) && (sLt (d.2.2.1.getD (k : Int).toNat default).1 (d.2.2.1.getD ((k : Int) - 1).toNat default).1 || sEq (d.2.2.1.getD (k : Int).toNat default).1 (d.2.2.1.getD ((k : Int) - 1).toNat default).1))
def b3w (d : DbT) (k : Nat) : Bool := !a1i (d.2.2.1.getD (k : Int).toNat default) || (decide ((0 : Int) < (k : Int)) && !sLt (d.2.2.1.getD ((k : Int) - 1).toNat default).1 (d.2.2.1.getD (k : Int).toNat default).1)
theorem b8O (d : DbT) (k : Nat) : b3w d k = a4Y d k := by unfold b3w a4Y; rw [a7N]
@[reducible] def a1D (d : DbT) (n : Str) : Int := a0r (a0E n) d.2.2.1 0
def a9j (d : DbT) (x : a3T) : Bool := (a3u x.2 (a0I x.2 (d.2.2.1.getD (a1D d x.1).toNat default).2.1 (d.2.2.1.getD (a1D d x.1).toNat default).2.1.length)).2.2
def a3l (d : DbT) (k : Nat) : Bool := ((decide (a1D d (d.2.2.2.getD (k : Int).toNat default).1 < 0) || !a2g (d.2.2.2.getD (k : Int).toNat default).2) || (d.2.2.2.take (k : Int).toNat).any (a1W (d.2.2.2.getD (k : Int).toNat default))) || a9j d (d.2.2.2.getD (k : Int).toNat default)
def a6F (d : DbT) : Bool := ((a2g d.1 && (decide (0 ≤ d.2.1) && decide (d.2.1 ≤ 1000))) && decide ((d.2.2.1.length : Int) ≤ 4)) && decide ((d.2.2.2.length : Int) ≤ 4)
def a6a (d : DbT) : Bool := (List.range d.2.2.1.length).all (fun i => !a4Y d i)
def a7I (d : DbT) : Bool := (List.range d.2.2.2.length).all (fun i => !a3l d i)
def a1e (d : DbT) : Bool := a6F d && (a6a d && a7I d)
theorem a6C {s : a0G} (h : a1i s = true) : a1g s ≤ 1000 * 1000 := by
 have h0 := h
 simp only [a1i, Bool.and_eq_true, List.all_eq_true, decide_eq_true_eq] at h
 obtain ⟨h1, ⟨h2, h3⟩, h4⟩ := h
 have h5 := a5h h2
 have h6 : ∀ x ∈ s.2.1, a1Q x ≤ 70 := fun x hx => by
 obtain ⟨i, hi, rfl⟩ := List.mem_iff_getElem.1 hx
 have h7 := h1 i (List.mem_range.2 hi)
 unfold a4o at h7
 rw [a3I hi] at h7
 simp only [Bool.not_or, Bool.not_not, Bool.and_eq_true] at h7
 have h8 := (a7K h7.1.1).2.2
 have h9 := h7.1.2
 have h10 := a7F h9
 have h11 : a0V a5K s.2.1[i].2 ≤ 8 * s.2.1[i].2.length := by
  have key : ∀ r : a0v, (∀ f ∈ r, f.1.size ≤ 8) → a0V a5K r ≤ 8 * r.length := by
  intro r
  induction r with
  | nil => intro _; simp [a0V]
  | cons f r ih =>
   intro hf
   have k1 := ih (fun g hg => hf g (by simp [hg]))
   have k2 := hf f (by simp)
   have k3 : a5K f = f.1.size := rfl
   simp only [a0V, List.map_cons, List.sum_cons, List.length_cons] at *
   omega
  refine key _ (fun f hf => ?_)
  obtain ⟨j, hj, rfl⟩ := List.mem_iff_getElem.1 hf
  have := (a5h (b0w h9 hj).1).2
  rwa [a3I hj] at this
 have h12 : a1Q s.2.1[i] = s.2.1[i].1.2.2.size + a7L s.2.1[i].2 := rfl
 have h13 : a7L s.2.1[i].2 = s.2.1[i].2.length + a0V a5K s.2.1[i].2 := rfl
 omega
 have h7 : a0V a1Q s.2.1 ≤ 70 * s.2.1.length := by
 have key : ∀ l : List a0U, (∀ x ∈ l, a1Q x ≤ 70) → a0V a1Q l ≤ 70 * l.length := by
  intro l
  induction l with
  | nil => intro _; simp [a0V]
  | cons x l ih =>
  intro hx
  have k1 := ih (fun g hg => hx g (by simp [hg]))
  have k2 := hx x (by simp)
  simp only [a0V, List.map_cons, List.sum_cons, List.length_cons] at *
  omega
 exact key _ h6
 have h8 : a1g s = s.1.size + (s.2.1.length + a0V a1Q s.2.1) := rfl
 omega
theorem a5L {d : DbT} {i : Int} (h : a6a d = true) (h0 : 0 ≤ i) (h1 : i < d.2.2.1.length) : a1i (d.2.2.1.getD i.toNat default) = true := by
 simp only [a6a, List.all_eq_true] at h
 have h2 := h i.toNat (List.mem_range.2 (by omega))
 unfold a4Y at h2
 rw [Int.toNat_natCast] at h2
 simp only [Bool.not_or, Bool.not_not, Bool.and_eq_true] at h2
 exact h2.1
theorem a8b (d : DbT) (n : Str) : a1D d n < d.2.2.1.length := by
 rcases a8u (p := a0E n) d.2.2.1 0 (by omega) with h1 | h1
 ·unfold a1D; omega
 ·unfold a1D; omega
theorem c2V {d : DbT} (h : a6F d = false) : a1e d = false := by rw [a1e, h]; rfl
theorem b5F {d : DbT} {k : Nat} (hk : k < d.2.2.1.length) (h : a4Y d k = true) : a1e d = false := by
 have : a6a d = false := a7B hk (by rw [h]; rfl)
 rw [a1e, this]; simp
theorem a8p {d : DbT} {k : Nat} (hk : k < d.2.2.2.length) (h : a3l d k = true) : a1e d = false := by
 have : a7I d = false := a7B hk (by rw [h]; rfl)
 rw [a1e, this]; simp
theorem c1T {d : DbT} {k j : Nat} (hj : j = k) (h1 : (decide (a0r (a0E (d.2.2.2.getD (k : Int).toNat default).1) d.2.2.1 0 < 0) || !a2g (d.2.2.2.getD (k : Int).toNat default).2) = false)
 (h3 : (d.2.2.2.take j).any (a1W (d.2.2.2.getD (k : Int).toNat default)) = false) (h2 : a9j d (d.2.2.2.getD (k : Int).toNat default) = false) : (!a3l d k) = true := by
 subst hj
 have h4 : (d.2.2.2.take ((j : Nat) : Int).toNat).any (a1W (d.2.2.2.getD (j : Int).toNat default)) = false := h3
 rw [a3l, h1, h4, h2]; rfl
theorem c6U {d : DbT} {k j : Nat} (hj : j < k) (hk : k < d.2.2.2.length) (h : a1W (d.2.2.2.getD (j : Int).toNat default) (d.2.2.2.getD (k : Int).toNat default) = true) : a3l d k = true := by
 have h4 : (d.2.2.2.take ((k : Nat) : Int).toNat).any (a1W (d.2.2.2.getD (k : Int).toNat default)) = true := by
 refine c8P (k := j) (d := default) (by rw [List.length_take, Int.toNat_natCast]; omega) ?_
 rw [c8J (by omega), b2h]; exact h
 rw [a3l, h4]; simp
theorem b9U {d : DbT} (h1 : a6a d = true) (h2 : a7I d = true) : a1e d = a6F d := by rw [a1e, h1, h2]; simp
theorem c5g {l : List a3T} {v : a3T}  : PFn Tryz.prog 103 [.one (.dv [] (a0A (l))), .agg [(.dv [] (.str (v.1))), (.dv [] (.str (v.2)))]] (.one (.dv [] (.int .i64 (a0r (a1W v) l 0)))) := by
 refine ⟨a0Q Tryz.func103 rfl Tryz.ntmps103 Tryz.results103 rfl (fun C => ?_)⟩
 refine a1k (x := .tmp 0) (a0a rfl) fun f0 => ?_
 refine yF 1 0 rfl rfl fun f1_0 => ?_
 refine yF 1 1 rfl rfl fun f1_1 => ?_
 iterate 11 refine z ?_
 refine a1l (ι := Nat) (fun zz => ⟨[(0, .one (.dv [] (a0A (l)))), (3, .box 3 0), (7, .one (.dv [] (.int .i64 ((((l)).length : Int))))), (8, .one (.dv [] (.int .i64 ((zz : Int)))))], [(3, 79, [(.dv [] (.str (v.1))), (.dv [] (.str (v.2)))])], []⟩) (fun zz => zz ≤ l.length ∧ (l.take zz).any (a1W v) = false) (fun zz => l.length - zz) (0) ?_ (a0e ⟨rfl, rfl, rfl, rfl, trivial⟩ ⟨rfl, trivial⟩ trivial rfl) (fun zz hx => ?_)
 ·exact ⟨Nat.zero_le _, rfl⟩
 obtain ⟨k, rfl⟩ : ∃ v, v = zz := ⟨_, rfl⟩
 replace hx : k ≤ l.length ∧ (l.take k).any (a1W v) = false := hx
 obtain ⟨hk, hall⟩ := hx
 show Ok _ _ _ _ _ (⟨[(0, .one (.dv [] (a0A (l)))), (3, .box 3 0), (7, .one (.dv [] (.int .i64 ((((l)).length : Int))))), (8, .one (.dv [] (.int .i64 ((k : Int)))))], [(3, 79, [(.dv [] (.str (v.1))), (.dv [] (.str (v.2)))])], []⟩ : St)
 iterate 3 refine z ?_
 refine a0s ?_
 refine yQ rfl (fun c1 => ?_) fun c1 => ?_
 ·have d1 := of_decide_eq_true c1
 iterate 8 refine z ?_
 refine a0s ?_
 refine a1N (oB := [3]) (oK := []) (by kernel_rfl) rfl rfl ?_
 refine zD 0 ?_
 refine zD 1 ?_
 refine zD 2 ?_
 refine zD 3 ?_
 refine zD 4 ?_
 refine a1q 5 rfl (by kernel_rfl) rfl rfl (a7M rfl (a0a rfl) (a0a rfl) rfl rfl Tryz.eqGuardType79 (b5Q _ _ _ _)) rfl rfl rfl rfl ?_
 refine a1S (by kernel_rfl) ?_
 refine z ?_
 refine yQ rfl (fun c2 => ?_) fun c2 => ?_
 ·iterate 11 refine z ?_
  exact (a5T (p := a1W v) (d := default) hall (by omega) c2).symm
 ·iterate 3 refine z ?_
  refine a0n ?_
  iterate 3 refine z ?_
  refine ⟨k + 1, ?_, ?_, a0e ⟨rfl, rfl, rfl, rfl, trivial⟩ ⟨rfl, trivial⟩ trivial rfl⟩
  ·exact ⟨by omega, a5X (d := default) hall (by omega) c2⟩
  ·omega
 ·have d1 := of_decide_eq_false c1
 iterate 10 refine z ?_
 exact (a6i (p := a1W v) hall (by omega)).symm
theorem c4i {l : List a3T} {v : a3T}  : PFn Tryz.prog 76 [.one (.dv [] (a0A (l))), .agg [(.dv [] (.str (v.1))), (.dv [] (.str (v.2)))]] (.one (.dv [] (.bool (l.any (a1W v))))) := by
 refine ⟨a0Q Tryz.func76 rfl Tryz.ntmps76 Tryz.results76 rfl (fun C => ?_)⟩
 refine a1k (x := .tmp 0) (a0a rfl) fun f0 => ?_
 refine yF 1 0 rfl rfl fun f1_0 => ?_
 refine yF 1 1 rfl rfl fun f1_1 => ?_
 iterate 7 refine z ?_
 refine zC Tryz.call103 ?_ (hf := c5g (l := l) (v := v) )
 iterate 5 refine z ?_
 exact b7X l
theorem a9l {x : DbT}  : PFn Tryz.prog 41 [.agg [(.dv [] (.str (x.1))), (.dv [] (.int .i64 (x.2.1))), (.dv [] (a0y (x.2.2.1))), (.dv [] (a0A (x.2.2.2)))]] (.one (.dv [] (.bool (a1e x)))) := by
 refine ⟨a0Q Tryz.func41 rfl Tryz.ntmps41 Tryz.results41 rfl (fun C => ?_)⟩
 refine yF 0 0 rfl rfl fun f0_0 => ?_
 refine yF 0 1 rfl rfl fun f0_1 => ?_
 refine yF 0 2 rfl rfl fun f0_2 => ?_
 refine yF 0 3 rfl rfl fun f0_3 => ?_
 iterate 8 refine z ?_
 refine zC Tryz.call72 ?_ (hf := a7W (s := x.1) )
 iterate 4 refine z ?_
 refine a1P (a1t rfl rfl rfl rfl rfl) rfl rfl Tryz.call73 (a6w (n := x.2.1) (lo := 0) (hi := 1000) ) (fun hg => (a0g (a0z rfl hg) (a0D a0c) (a0g (a0j (a0i rfl)) (a0D a0c) (a0g (a0j (a0i rfl)) (a0D a0c) a0q)))) rfl rfl ?_
 iterate 15 refine z ?_
 refine yQ rfl (fun c1 => ?_) fun c1 => ?_
 ·iterate 6 refine z ?_
 exact (c2V (by have h := c1; unfold a6F; grind)).symm
 ·iterate 10 refine z ?_
 refine a1l (ι := Nat) (fun zz => ⟨[(1, .box 1 0), (34, .one (.dv [] (a0y (x.2.2.1)))), (35, .one (.dv [] (.int .i64 ((((x.2.2.1)).length : Int))))), (36, .one (.dv [] (.int .i64 ((zz : Int)))))], [(1, 27, [(.dv [] (.str (x.1))), (.dv [] (.int .i64 (x.2.1))), (.dv [] (a0y (x.2.2.1))), (.dv [] (a0A (x.2.2.2)))])], []⟩) (fun zz => zz ≤ x.2.2.1.length ∧ (List.range zz).all (fun i => !a4Y x i) = true) (fun zz => x.2.2.1.length - zz) (0) ?_ (a0e ⟨rfl, rfl, rfl, rfl, trivial⟩ ⟨rfl, trivial⟩ trivial rfl) (fun zz hx => ?_)
 ·exact ⟨Nat.zero_le _, rfl⟩
 obtain ⟨k, rfl⟩ : ∃ v, v = zz := ⟨_, rfl⟩
 replace hx : k ≤ x.2.2.1.length ∧ (List.range k).all (fun i => !a4Y x i) = true := hx
 obtain ⟨hk, hall⟩ := hx
 show Ok _ _ _ _ _ (⟨[(1, .box 1 0), (34, .one (.dv [] (a0y (x.2.2.1)))), (35, .one (.dv [] (.int .i64 ((((x.2.2.1)).length : Int))))), (36, .one (.dv [] (.int .i64 ((k : Int)))))], [(1, 27, [(.dv [] (.str (x.1))), (.dv [] (.int .i64 (x.2.1))), (.dv [] (a0y (x.2.2.1))), (.dv [] (a0A (x.2.2.2)))])], []⟩ : St)
 iterate 3 refine z ?_
 refine a0s ?_
 refine yQ rfl (fun c2 => ?_) fun c2 => ?_
 ·have d2 := of_decide_eq_true c2
  iterate 12 refine z ?_
  refine a0s ?_
  refine a1N (oB := [1, 4]) (oK := []) (by kernel_rfl) rfl rfl ?_
  refine zD 0 ?_
  refine a5A 1 rfl (by kernel_rfl) rfl rfl rfl Tryz.call74 (a8k (s := (((x.2.2.1)).getD ((k : Int)).toNat default)) ) (a0g (a0a rfl) (a0u (a0d a0c (a0d a0c (a0d a0c a0t)))) a0q) rfl rfl rfl rfl ?_
  refine zD 2 ?_
  refine zD 3 ?_
  refine zDG 4 ?_
  refine zDG 5 ?_
  refine zDG 6 ?_
  refine zDG 7 ?_
  refine zDG 8 ?_
  refine zDG 9 ?_
  refine zDG 10 ?_
  refine zDG 11 ?_
  refine zDG 12 ?_
  refine zDG 13 ?_
  refine zDG 14 ?_
  refine zDG 15 ?_
  refine zDG 16 ?_
  refine zDG 17 ?_
  refine zD 18 ?_
  refine a1S (by kernel_rfl) ?_
  refine z ?_
  refine yQ rfl (fun c3 => ?_) fun c3 => ?_
  ·iterate 10 refine z ?_
  exact (b5F (k := k) (by omega) c3).symm
  ·iterate 3 refine z ?_
  refine a0n ?_
  iterate 3 refine z ?_
  refine ⟨k + 1, ?_, ?_, a0e ⟨rfl, rfl, rfl, rfl, trivial⟩ ⟨rfl, trivial⟩ trivial rfl⟩
  ·exact ⟨by omega, a4w hall (by have h : a4Y x k = false := c3; simpa using h)⟩
  ·omega
 ·have d2 := of_decide_eq_false c2
  obtain rfl : k = x.2.2.1.length := by omega
  have hst : a6a x = true := hall
  clear hall hk
  iterate 13 refine z ?_
  refine a1l (ι := Nat) (fun zz => ⟨[(1, .box 1 0), (62, .one (.dv [] (a0A (x.2.2.2)))), (63, .one (.dv [] (.int .i64 ((((x.2.2.2)).length : Int))))), (64, .one (.dv [] (.int .i64 ((zz : Int)))))], [(1, 27, [(.dv [] (.str (x.1))), (.dv [] (.int .i64 (x.2.1))), (.dv [] (a0y (x.2.2.1))), (.dv [] (a0A (x.2.2.2)))])], []⟩) (fun zz => zz ≤ x.2.2.2.length ∧ (List.range zz).all (fun i => !a3l x i) = true) (fun zz => x.2.2.2.length - zz) (0) ?_ (a0e ⟨rfl, rfl, rfl, rfl, trivial⟩ ⟨rfl, trivial⟩ trivial rfl) (fun zz hx => ?_)
  ·exact ⟨Nat.zero_le _, rfl⟩
  obtain ⟨k, rfl⟩ : ∃ v, v = zz := ⟨_, rfl⟩
  replace hx : k ≤ x.2.2.2.length ∧ (List.range k).all (fun i => !a3l x i) = true := hx
  obtain ⟨hk2, hall2⟩ := hx
  show Ok _ _ _ _ _ (⟨[(1, .box 1 0), (62, .one (.dv [] (a0A (x.2.2.2)))), (63, .one (.dv [] (.int .i64 ((((x.2.2.2)).length : Int))))), (64, .one (.dv [] (.int .i64 ((k : Int)))))], [(1, 27, [(.dv [] (.str (x.1))), (.dv [] (.int .i64 (x.2.1))), (.dv [] (a0y (x.2.2.1))), (.dv [] (a0A (x.2.2.2)))])], []⟩ : St)
  iterate 3 refine z ?_
  refine a0s ?_
  refine yQ rfl (fun c4 => ?_) fun c4 => ?_
  ·have d4 := of_decide_eq_true c4
  iterate 16 refine z ?_
  refine zC Tryz.call75 ?_ (hf := b4y (x := x) (n := (x.2.2.2.getD (k : Int).toNat default).1))
  iterate 2 refine z ?_
  refine a0s ?_
  refine a0s ?_
  refine a1N (oB := [1, 6]) (oK := []) (by kernel_rfl) rfl rfl ?_
  refine zD 0 ?_
  refine zD 1 ?_
  refine zD 2 ?_
  refine zDG 3 ?_
  refine zDG 4 ?_
  refine a3Q 5 rfl (by kernel_rfl) (a1t rfl rfl rfl rfl rfl) rfl rfl Tryz.call72 (a7W (s := (((x.2.2.2)).getD ((k : Int)).toNat default).2) ) (fun hg => (a0g (a0z rfl hg) (a0D a0c) a0q)) rfl rfl ?_
  refine zDG 6 ?_
  refine zD 7 ?_
  refine zD 8 ?_
  refine zDG 9 ?_
  refine zDG 10 ?_
  refine zDG 11 ?_
  refine a8a 12 rfl (by kernel_rfl) (a1t rfl rfl rfl rfl rfl) rfl (fun hg => b2d hT rfl rfl rfl (a0z rfl hg) (a0z rfl hg) (fun _ => rfl) (by first | omega | (simp only [Bool.and_eq_true, Bool.or_eq_true, Bool.or_eq_false_iff, Bool.and_eq_false_iff, Bool.not_eq_true', Bool.not_eq_false', beq_iff_eq, decide_eq_true_eq, decide_eq_false_iff_not] at hg; omega) | (have hh := of_decide_eq_true (a4P hg); omega) | (have hh := of_decide_eq_true (a4P (a8t hg)); omega)) (by first | omega | (simp only [Bool.and_eq_true, Bool.or_eq_true, Bool.or_eq_false_iff, Bool.and_eq_false_iff, Bool.not_eq_true', Bool.not_eq_false', beq_iff_eq, decide_eq_true_eq, decide_eq_false_iff_not] at hg; omega) | (have hh := of_decide_eq_true (a4P hg); omega) | (have hh := of_decide_eq_true (a4P (a8t hg)); omega))) rfl rfl rfl rfl ?_
  refine zDG 13 ?_
  refine a3Q 14 rfl (by kernel_rfl) (a1t rfl rfl rfl rfl rfl) rfl rfl Tryz.call76 (c4i (l := ((x.2.2.2)).take ((k : Int)).toNat) (v := (((x.2.2.2)).getD ((k : Int)).toNat default)) ) (fun hg => (a0g (a0z rfl hg) (a0D a0c) (a0g (a0z rfl hg) (a0u (a0d a0c (a0d a0c a0t))) a0q))) rfl rfl ?_
  refine zD 15 ?_
  refine a1S (by kernel_rfl) ?_
  refine z ?_
  refine yQ rfl (fun c5 => ?_) fun c5 => ?_
  ·iterate 11 refine z ?_
   exact (a8p (k := k) (by omega) (by have h3 : ((decide (a0r (a0E (x.2.2.2.getD (k : Int).toNat default).1) x.2.2.1 0 < 0) || !a2g (x.2.2.2.getD (k : Int).toNat default).2) || (x.2.2.2.take (k : Int).toNat).any (a1W (x.2.2.2.getD (k : Int).toNat default))) = true := c5; rw [a3l, h3]; rfl)).symm
  ·have hfl : a0r (a0E (x.2.2.2.getD (k : Int).toNat default).1) x.2.2.1 0 < x.2.2.1.length := a8b x (x.2.2.2.getD (k : Int).toNat default).1
   have hf0 : 0 ≤ a0r (a0E (x.2.2.2.getD (k : Int).toNat default).1) x.2.2.1 0 := by have h := c5; simp only [Bool.or_eq_false_iff, decide_eq_false_iff_not] at h; omega
   have hsw := a6C (a5L hst hf0 hfl)
   iterate 2 refine z ?_
   refine a0s ?_
   refine a1N (oB := [1, 6]) (oK := []) (by kernel_rfl) rfl rfl ?_
   refine zD 0 ?_
   refine zD 1 ?_
   refine zD 2 ?_
   refine zD 3 ?_
   refine zD 4 ?_
   refine zD 5 ?_
   refine zD 6 ?_
   refine a6l (A := [(12, 8, 60, _), (13, 9, 60, _)]) hT ⟨⟨_, _, rfl⟩, rfl, ⟨⟨_, _, rfl⟩, rfl, trivial⟩⟩ ?_
   refine b8t 7 rfl (by kernel_rfl) rfl rfl rfl (vok hT ⟨⟨_, _, rfl⟩, rfl, ⟨⟨_, _, rfl⟩, rfl, trivial⟩⟩ (by kernel_rfl) (by kernel_rfl)) (vok hT ⟨⟨_, _, rfl⟩, rfl, ⟨⟨_, _, rfl⟩, rfl, trivial⟩⟩ (by kernel_rfl) (by kernel_rfl)) rfl Tryz.call77 (c5x (x := (x.2.2.1.getD (a0r (a0E (x.2.2.2.getD (k : Int).toNat default).1) x.2.2.1 0).toNat default)) (f := (x.2.2.2.getD (k : Int).toNat default).2) (by omega)) (a0g (a0a rfl) (a0u (a0d a0c (a0d a0c (a0d a0c a0t)))) (a0g (a0a rfl) (a0D a0c) a0q)) rfl rfl rfl rfl ?_
   refine a6d 8 rfl (by kernel_rfl) rfl rfl rfl (vok hT ⟨⟨_, _, rfl⟩, rfl, ⟨⟨_, _, rfl⟩, rfl, trivial⟩⟩ (by kernel_rfl) (by kernel_rfl)) (vok hT ⟨⟨_, _, rfl⟩, rfl, ⟨⟨_, _, rfl⟩, rfl, trivial⟩⟩ (by kernel_rfl) (by kernel_rfl)) (a0N (.inl rfl) (a0a rfl)) rfl rfl rfl rfl ?_
   refine a2C 9 rfl (by kernel_rfl) rfl rfl rfl rfl (vok hT ⟨⟨_, _, rfl⟩, rfl, ⟨⟨_, _, rfl⟩, rfl, trivial⟩⟩ (by kernel_rfl) (by kernel_rfl)) (vok hT ⟨⟨_, _, rfl⟩, rfl, ⟨⟨_, _, rfl⟩, rfl, trivial⟩⟩ (by kernel_rfl) (by kernel_rfl)) (a3F rfl (a0a rfl) rfl) rfl rfl ?_
   refine a2C 10 rfl (by kernel_rfl) rfl rfl rfl rfl (vok hT ⟨⟨_, _, rfl⟩, rfl, ⟨⟨_, _, rfl⟩, rfl, trivial⟩⟩ (by kernel_rfl) (by kernel_rfl)) (vok hT ⟨⟨_, _, rfl⟩, rfl, ⟨⟨_, _, rfl⟩, rfl, trivial⟩⟩ (by kernel_rfl) (by kernel_rfl)) (a3F rfl (a0a rfl) rfl) rfl rfl ?_
   refine a2C 11 rfl (by kernel_rfl) rfl rfl rfl rfl (vok hT ⟨⟨_, _, rfl⟩, rfl, ⟨⟨_, _, rfl⟩, rfl, trivial⟩⟩ (by kernel_rfl) (by kernel_rfl)) (vok hT ⟨⟨_, _, rfl⟩, rfl, ⟨⟨_, _, rfl⟩, rfl, trivial⟩⟩ (by kernel_rfl) (by kernel_rfl)) (a3b rfl (a0a rfl) rfl) rfl rfl ?_
   refine a6h (vok hT ⟨⟨_, _, rfl⟩, rfl, ⟨⟨_, _, rfl⟩, rfl, trivial⟩⟩ (by kernel_rfl) (by kernel_rfl)) rfl rfl (by kernel_rfl) ?_
   dsimp only [a3k, a3d]
   refine a3C [14, 15, 16] rfl rfl (by kernel_rfl) ?_
   iterate 7 refine z ?_
   refine yQ rfl (fun c6 => ?_) fun c6 => ?_
   ·iterate 10 refine z ?_
   exact (a8p (k := k) (by omega) (by have h2 : a9j x (x.2.2.2.getD (k : Int).toNat default) = true := c6; rw [a3l, h2]; simp)).symm
   ·iterate 3 refine z ?_
   refine a0n ?_
   iterate 3 refine z ?_
   refine ⟨k + 1, ?_, ?_, a0e ⟨rfl, rfl, rfl, rfl, trivial⟩ ⟨rfl, trivial⟩ trivial rfl⟩
   ·exact ⟨by omega, a4w hall2 (by have h1 := c5; have h2 : a9j x (x.2.2.2.getD (k : Int).toNat default) = false := c6; show (!a3l x k) = true; rw [a3l, h2]; have h3 : ((decide (a0r (a0E (x.2.2.2.getD (k : Int).toNat default).1) x.2.2.1 0 < 0) || !a2g (x.2.2.2.getD (k : Int).toNat default).2) || (x.2.2.2.take (k : Int).toNat).any (a1W (x.2.2.2.getD (k : Int).toNat default))) = false := h1; rw [h3]; rfl)⟩
   ·omega
  ·have d4 := of_decide_eq_false c4
  iterate 10 refine z ?_
  obtain rfl : k = x.2.2.2.length := by omega
  rw [b9U hst hall2]; have h := c1; unfold a6F; grind
theorem a9s {x : DbT}  : PFn Tryz.prog 24 [.agg [(.dv [] (.str (x.1))), (.dv [] (.int .i64 (x.2.1))), (.dv [] (a0y (x.2.2.1))), (.dv [] (a0A (x.2.2.2)))]] (.one (.dv [] (.bool (a1e x)))) := by
 refine ⟨a0Q Tryz.func24 rfl Tryz.ntmps24 Tryz.results24 rfl (fun C => ?_)⟩
 refine yF 0 0 rfl rfl fun f0_0 => ?_
 refine yF 0 1 rfl rfl fun f0_1 => ?_
 refine yF 0 2 rfl rfl fun f0_2 => ?_
 refine yF 0 3 rfl rfl fun f0_3 => ?_
 iterate 9 refine z ?_
 refine a1l (ι := Nat) (fun zz => ⟨[(1, .box 1 0), (3, .one (.dv [] (.int .i64 ((zz : Int)))))], [(1, 27, [(.dv [] (.str (x.1))), (.dv [] (.int .i64 (x.2.1))), (.dv [] (a0y (x.2.2.1))), (.dv [] (a0A (x.2.2.2)))])], []⟩) (fun zz => zz ≤ x.2.2.1.length ∧ (List.range zz).all (fun i => !a4Y x i) = true) (fun zz => x.2.2.1.length - zz) (0) ?_ (a0e ⟨rfl, rfl, trivial⟩ ⟨rfl, trivial⟩ trivial rfl) (fun zz hx => ?_)
 ·exact ⟨Nat.zero_le _, rfl⟩
 obtain ⟨k, rfl⟩ : ∃ v, v = zz := ⟨_, rfl⟩
 replace hx : k ≤ x.2.2.1.length ∧ (List.range k).all (fun i => !a4Y x i) = true := hx
 obtain ⟨hk, hall⟩ := hx
 show Ok _ _ _ _ _ (⟨[(1, .box 1 0), (3, .one (.dv [] (.int .i64 ((k : Int)))))], [(1, 27, [(.dv [] (.str (x.1))), (.dv [] (.int .i64 (x.2.1))), (.dv [] (a0y (x.2.2.1))), (.dv [] (a0A (x.2.2.2)))])], []⟩ : St)
 iterate 8 refine z ?_
 refine yQ rfl (fun c1 => ?_) fun c1 => ?_
 ·have d1 := of_decide_eq_true c1
 iterate 4 refine z ?_
 refine a0s ?_
 refine a1N (oB := [1]) (oK := []) (by kernel_rfl) rfl rfl ?_
 refine zD 0 ?_
 refine zD 1 ?_
 refine zD 2 ?_
 refine zD 3 ?_
 refine zD 4 ?_
 refine a5A 5 rfl (by kernel_rfl) rfl rfl rfl Tryz.call50 (b3H (s := (((x.2.2.1)).getD ((k : Int)).toNat default)) ) (a0g (a0a rfl) (a0u (a0d a0c (a0d a0c (a0d a0c a0t)))) a0q) rfl rfl rfl rfl ?_
 refine zD 6 ?_
 refine zD 7 ?_
 refine zDG 8 ?_
 refine zDG 9 ?_
 refine zDG 10 ?_
 refine zDG 11 ?_
 refine zDG 12 ?_
 refine zDG 13 ?_
 refine zDG 14 ?_
 refine zDG 15 ?_
 refine zDG 16 ?_
 refine zDG 17 ?_
 refine zDG 18 ?_
 refine zDG 19 ?_
 refine zDG 20 ?_
 refine zDG 21 ?_
 refine zDG 22 ?_
 refine zDG 23 ?_
 refine zDG 24 ?_
 refine zDG 25 ?_
 refine zD 26 ?_
 refine a1S (by kernel_rfl) ?_
 refine z ?_
 refine yQ rfl (fun c2 => ?_) fun c2 => ?_
 ·iterate 10 refine z ?_
  exact (b5F (k := k) (by omega) (by rw [← b8O]; exact c2)).symm
 ·iterate 3 refine z ?_
  refine a0n ?_
  iterate 4 refine z ?_
  refine ⟨k + 1, ?_, ?_, a0e ⟨rfl, rfl, trivial⟩ ⟨rfl, trivial⟩ trivial rfl⟩
  ·exact ⟨by omega, a4w hall (by have h : b3w x k = false := c2; rw [b8O] at h; simpa using h)⟩
  ·omega
 ·have d1 := of_decide_eq_false c1
 obtain rfl : k = x.2.2.1.length := by omega
 have hst : a6a x = true := hall
 clear hall hk
 iterate 10 refine z ?_
 refine a1l (ι := Nat) (fun zz => ⟨[(1, .box 1 0), (4, .one (.dv [] (.int .i64 ((zz : Int)))))], [(1, 27, [(.dv [] (.str (x.1))), (.dv [] (.int .i64 (x.2.1))), (.dv [] (a0y (x.2.2.1))), (.dv [] (a0A (x.2.2.2)))])], []⟩) (fun zz => zz ≤ x.2.2.2.length ∧ (List.range zz).all (fun i => !a3l x i) = true) (fun zz => x.2.2.2.length - zz) (0) ?_ (a0e ⟨rfl, rfl, trivial⟩ ⟨rfl, trivial⟩ trivial rfl) (fun zz hx => ?_)
 ·exact ⟨Nat.zero_le _, rfl⟩
 obtain ⟨k, rfl⟩ : ∃ v, v = zz := ⟨_, rfl⟩
 replace hx : k ≤ x.2.2.2.length ∧ (List.range k).all (fun i => !a3l x i) = true := hx
 obtain ⟨hk2, hall2⟩ := hx
 show Ok _ _ _ _ _ (⟨[(1, .box 1 0), (4, .one (.dv [] (.int .i64 ((k : Int)))))], [(1, 27, [(.dv [] (.str (x.1))), (.dv [] (.int .i64 (x.2.1))), (.dv [] (a0y (x.2.2.1))), (.dv [] (a0A (x.2.2.2)))])], []⟩ : St)
 iterate 8 refine z ?_
 refine yQ rfl (fun c3 => ?_) fun c3 => ?_
 ·have d3 := of_decide_eq_true c3
  iterate 4 refine z ?_
  refine a0s ?_
  refine a1N (oB := [1]) (oK := []) (by kernel_rfl) rfl rfl ?_
  refine zD 0 ?_
  refine zD 1 ?_
  refine zD 2 ?_
  refine zD 3 ?_
  refine zD 4 ?_
  refine zD 5 ?_
  refine zD 6 ?_
  refine a5A 7 rfl (by kernel_rfl) rfl rfl rfl Tryz.call51 (b4V (x := x) (n := (x.2.2.2.getD (k : Int).toNat default).1)) (a0g (a0a rfl) (a0u (a0d a0c (a0d a0c (a0d a0c (a0d a0c a0t))))) (a0g (a0a rfl) (a0D a0c) a0q)) rfl rfl rfl rfl ?_
  refine zD 8 ?_
  refine a1S (by kernel_rfl) ?_
  iterate 12 refine z ?_
  refine a1P (a1t rfl rfl rfl rfl rfl) rfl rfl Tryz.call52 (a8j (s := (((x.2.2.2)).getD ((k : Int)).toNat default).2) ) (fun hg => (a0g (a0z rfl hg) (a0D a0c) a0q)) rfl rfl ?_
  iterate 3 refine z ?_
  refine yQ rfl (fun c4 => ?_) fun c4 => ?_
  ·iterate 11 refine z ?_
  exact (a8p (k := k) (by omega) (by have h3 : (decide (a0r (a0E (x.2.2.2.getD (k : Int).toNat default).1) x.2.2.1 0 < 0) || !a2g (x.2.2.2.getD (k : Int).toNat default).2) = true := c4; rw [a3l, h3]; rfl)).symm
  ·have hfl : a0r (a0E (x.2.2.2.getD (k : Int).toNat default).1) x.2.2.1 0 < x.2.2.1.length := a8b x (x.2.2.2.getD (k : Int).toNat default).1
  have hf0 : 0 ≤ a0r (a0E (x.2.2.2.getD (k : Int).toNat default).1) x.2.2.1 0 := by have h := c4; simp only [Bool.or_eq_false_iff, decide_eq_false_iff_not] at h; omega
  have hsw := a6C (a5L hst hf0 hfl)
  iterate 2 refine z ?_
  refine a0s ?_
  refine a0s ?_
  refine a1N (oB := [1]) (oK := []) (by kernel_rfl) rfl rfl ?_
  refine zD 0 ?_
  refine zD 1 ?_
  refine zD 2 ?_
  refine zD 3 ?_
  refine zD 4 ?_
  refine zD 5 ?_
  refine zD 6 ?_
  refine zD 7 ?_
  refine zD 8 ?_
  refine zD 9 ?_
  refine zD 10 ?_
  refine a6l (A := [(16, 6, 60, _), (17, 7, 60, _)]) hT ⟨⟨_, _, rfl⟩, rfl, ⟨⟨_, _, rfl⟩, rfl, trivial⟩⟩ ?_
  refine b8t 11 rfl (by kernel_rfl) rfl rfl rfl (vok hT ⟨⟨_, _, rfl⟩, rfl, ⟨⟨_, _, rfl⟩, rfl, trivial⟩⟩ (by kernel_rfl) (by kernel_rfl)) (vok hT ⟨⟨_, _, rfl⟩, rfl, ⟨⟨_, _, rfl⟩, rfl, trivial⟩⟩ (by kernel_rfl) (by kernel_rfl)) rfl Tryz.call53 (c5H (x := (x.2.2.1.getD (a0r (a0E (x.2.2.2.getD (k : Int).toNat default).1) x.2.2.1 0).toNat default)) (f := (x.2.2.2.getD (k : Int).toNat default).2) (by omega)) (a0g (a0a rfl) (a0u (a0d a0c (a0d a0c (a0d a0c a0t)))) (a0g (a0a rfl) (a0D a0c) a0q)) rfl rfl rfl rfl ?_
  refine a6d 12 rfl (by kernel_rfl) rfl rfl rfl (vok hT ⟨⟨_, _, rfl⟩, rfl, ⟨⟨_, _, rfl⟩, rfl, trivial⟩⟩ (by kernel_rfl) (by kernel_rfl)) (vok hT ⟨⟨_, _, rfl⟩, rfl, ⟨⟨_, _, rfl⟩, rfl, trivial⟩⟩ (by kernel_rfl) (by kernel_rfl)) (a0N (.inl rfl) (a0a rfl)) rfl rfl rfl rfl ?_
  refine a2C 13 rfl (by kernel_rfl) rfl rfl rfl rfl (vok hT ⟨⟨_, _, rfl⟩, rfl, ⟨⟨_, _, rfl⟩, rfl, trivial⟩⟩ (by kernel_rfl) (by kernel_rfl)) (vok hT ⟨⟨_, _, rfl⟩, rfl, ⟨⟨_, _, rfl⟩, rfl, trivial⟩⟩ (by kernel_rfl) (by kernel_rfl)) (a3F rfl (a0a rfl) rfl) rfl rfl ?_
  refine a2C 14 rfl (by kernel_rfl) rfl rfl rfl rfl (vok hT ⟨⟨_, _, rfl⟩, rfl, ⟨⟨_, _, rfl⟩, rfl, trivial⟩⟩ (by kernel_rfl) (by kernel_rfl)) (vok hT ⟨⟨_, _, rfl⟩, rfl, ⟨⟨_, _, rfl⟩, rfl, trivial⟩⟩ (by kernel_rfl) (by kernel_rfl)) (a3F rfl (a0a rfl) rfl) rfl rfl ?_
  refine a2C 15 rfl (by kernel_rfl) rfl rfl rfl rfl (vok hT ⟨⟨_, _, rfl⟩, rfl, ⟨⟨_, _, rfl⟩, rfl, trivial⟩⟩ (by kernel_rfl) (by kernel_rfl)) (vok hT ⟨⟨_, _, rfl⟩, rfl, ⟨⟨_, _, rfl⟩, rfl, trivial⟩⟩ (by kernel_rfl) (by kernel_rfl)) (a3b rfl (a0a rfl) rfl) rfl rfl ?_
  refine a6h (vok hT ⟨⟨_, _, rfl⟩, rfl, ⟨⟨_, _, rfl⟩, rfl, trivial⟩⟩ (by kernel_rfl) (by kernel_rfl)) rfl rfl (by kernel_rfl) ?_
  dsimp only [a3k, a3d]
  refine a3C [18, 19, 20] rfl rfl (by kernel_rfl) ?_
  iterate 7 refine z ?_
  refine yQ rfl (fun c5 => ?_) fun c5 => ?_
  ·iterate 11 refine z ?_
   exact (a8p (k := k) (by omega) (by have h2 : a9j x (x.2.2.2.getD (k : Int).toNat default) = true := c5; rw [a3l, h2]; simp)).symm
  ·iterate 6 refine z ?_
   refine a1l (ι := Nat) (fun zz => ⟨[(1, .box 1 0), (4, .one (.dv [] (.int .i64 ((k : Int))))), (9, .one (.dv [] (.int .i64 ((zz : Int)))))], [(1, 27, [(.dv [] (.str (x.1))), (.dv [] (.int .i64 (x.2.1))), (.dv [] (a0y (x.2.2.1))), (.dv [] (a0A (x.2.2.2)))])], []⟩) (fun zz => zz ≤ k ∧ (x.2.2.2.take zz).any (a1W (x.2.2.2.getD (k : Int).toNat default)) = false) (fun zz => k - zz) (0) ?_ (a0e ⟨rfl, rfl, rfl, trivial⟩ ⟨rfl, trivial⟩ trivial rfl) (fun zz hx => ?_)
   ·exact ⟨Nat.zero_le _, rfl⟩
   obtain ⟨j, rfl⟩ : ∃ v, v = zz := ⟨_, rfl⟩
   replace hx : j ≤ k ∧ (x.2.2.2.take j).any (a1W (x.2.2.2.getD (k : Int).toNat default)) = false := hx
   obtain ⟨hj, hall3⟩ := hx
   show Ok _ _ _ _ _ (⟨[(1, .box 1 0), (4, .one (.dv [] (.int .i64 ((k : Int))))), (9, .one (.dv [] (.int .i64 ((j : Int)))))], [(1, 27, [(.dv [] (.str (x.1))), (.dv [] (.int .i64 (x.2.1))), (.dv [] (a0y (x.2.2.1))), (.dv [] (a0A (x.2.2.2)))])], []⟩ : St)
   iterate 6 refine z ?_
   refine yQ rfl (fun c6 => ?_) fun c6 => ?_
   ·have d6 := of_decide_eq_true c6
   iterate 4 refine z ?_
   refine a0s ?_
   refine a1N (oB := [1]) (oK := []) (by kernel_rfl) rfl rfl ?_
   refine zD 0 ?_
   refine zD 1 ?_
   refine zD 2 ?_
   refine zD 3 ?_
   refine zD 4 ?_
   refine zD 5 ?_
   refine zD 6 ?_
   refine zD 7 ?_
   refine zD 8 ?_
   refine zD 9 ?_
   refine a1q 10 rfl (by kernel_rfl) rfl rfl (a7M rfl (a0a rfl) (a0a rfl) rfl rfl Tryz.eqGuardType79 (b5Q _ _ _ _)) rfl rfl rfl rfl ?_
   refine a1S (by kernel_rfl) ?_
   refine z ?_
   refine yQ rfl (fun c7 => ?_) fun c7 => ?_
   ·iterate 14 refine z ?_
    exact (a8p (k := k) (by omega) (c6U (j := j) (by omega) (by omega) c7)).symm
   ·iterate 3 refine z ?_
    refine a0n ?_
    iterate 4 refine z ?_
    refine ⟨j + 1, ?_, ?_, a0e ⟨rfl, rfl, rfl, trivial⟩ ⟨rfl, trivial⟩ trivial rfl⟩
    ·exact ⟨by omega, c3Q (d := default) hall3 (by omega) (by rw [b2h]; exact c7)⟩
    ·omega
   ·have d6 := of_decide_eq_false c6
   iterate 6 refine z ?_
   refine a0n ?_
   iterate 4 refine z ?_
   refine ⟨k + 1, ?_, ?_, a0e ⟨rfl, rfl, trivial⟩ ⟨rfl, trivial⟩ trivial rfl⟩
   ·exact ⟨by omega, a4w hall2 (c1T (j := j) (by omega) c4 hall3 c5)⟩
   ·omega
 ·have d3 := of_decide_eq_false c3
  iterate 8 refine z ?_
  refine zC Tryz.call52 ?_ (hf := a8j (s := x.1) )
  iterate 3 refine z ?_
  refine a1P (a1t rfl rfl rfl rfl rfl) rfl rfl Tryz.call54 (a6Y (n := x.2.1) (lo := 0) (hi := 1000) ) (fun hg => (a0g (a0z rfl hg) (a0D a0c) (a0g (a0j (a0i rfl)) (a0D a0c) (a0g (a0j (a0i rfl)) (a0D a0c) a0q)))) rfl rfl ?_
  iterate 17 refine z ?_
  obtain rfl : k = x.2.2.2.length := by omega
  rw [b9U hst hall2]; rfl
theorem b1D {α : Type} [Inhabited α] {enc : α → List DV} {xs : List α} {k : Nat} (hk : k < xs.length) : (xs.take k).flatMap enc ++ enc (xs.getD (k : Int).toNat default) = (xs.take (k + 1)).flatMap enc ∧ (xs.take k).length + 1 = (xs.take (k + 1)).length := by
 have e : xs.getD (k : Int).toNat default = xs[k] := by simp [List.getD, List.getElem?_eq_getElem hk]
 rw [List.take_add_one, List.getElem?_eq_getElem hk, e]
 simp only [Option.toList_some, List.flatMap_append, List.flatMap_cons, List.flatMap_nil, List.append_nil, List.length_append, List.length_singleton]
 exact ⟨trivial, trivial⟩
theorem a6u {x : DbT} (hb : a1h x ≤ 1099511627776) : KFn Tryz.prog 27 [.agg [(.dv [] (.str (x.1))), (.dv [] (.int .i64 (x.2.1))), (.dv [] (a0y (x.2.2.1))), (.dv [] (a0A (x.2.2.2)))]] (.agg [(.dv [] (.str (x.1))), (.dv [] (.int .i64 (x.2.1))), (.key 31), (.key 900)]) [(31, some (a0b false (a0y (x.2.2.1)))), (900, some (a0b false (a0A (x.2.2.2))))] := by
 refine ⟨a0Q Tryz.func27 rfl Tryz.ntmps27 Tryz.results27 rfl (fun C => ?_)⟩
 have hwd : a1h x = x.1.size + a2e a1g x.2.2.1 + a2e a2Y x.2.2.2 := rfl
 have hwl : a2e a1g x.2.2.1 = x.2.2.1.length + a0V a1g x.2.2.1 := rfl
 have hwi : a2e a2Y x.2.2.2 = x.2.2.2.length + a0V a2Y x.2.2.2 := rfl
 refine yF 0 0 rfl rfl fun f0_0 => ?_
 refine yF 0 1 rfl rfl fun f0_1 => ?_
 refine yF 0 2 rfl rfl fun f0_2 => ?_
 refine yF 0 3 rfl rfl fun f0_3 => ?_
 iterate 4 refine z ?_
 refine a7R (σ' := ⟨[(1, .box 1 0), (2, .box 2 0), (3, .box 3 0)], [(1, 27, [(.dv [] (.str (x.1))), (.dv [] (.int .i64 (x.2.1))), (.dv [] (a0y (x.2.2.1))), (.dv [] (a0A (x.2.2.2)))]), (2, 27, [(.dv [] (.str (ByteArray.empty))), (.dv [] (.int .i64 (0))), .nil, .nil]), (3, 27, [(.dv [] (.str (x.1))), (.dv [] (.int .i64 (x.2.1))), .nil, (.key 900)])], [(900, some (a0b false (.sl 79 2 ((x.2.2.2).length) ((x.2.2.2).flatMap a2y))))]⟩) ?_ ?_
 ·refine a5w [0, 1, 2, 3, 4, 5, 6, 7, 8, 9] (oB := [1, 2]) (oK := []) (by kernel_rfl) rfl rfl ?_
 refine b3d ?_
 refine zN 0 ?_
 refine zN 1 ?_
 refine zN 2 ?_
 refine zN 3 ?_
 refine zN 5 ?_
 refine zN 6 ?_
 refine a2i 4 [9] (by kernel_rfl) ⟨?_, ?_, trivial⟩
 ·refine a8J (k := 900) 4 hT rfl rfl rfl rfl rfl rfl rfl rfl rfl rfl rfl rfl ?_
  refine a2i 7 [9] (by kernel_rfl) ⟨?_, ?_, trivial⟩
  ·refine a4d (k := 900) (cs := (x.2.2.2).flatMap a2y) (n := (x.2.2.2).length) 7 hT rfl rfl rfl rfl rfl rfl rfl rfl (a0a rfl) rfl rfl rfl (a0a rfl) (a3y (fun _ => rfl) _) (by first | (dsimp only [a0b]; omega) | omega) (by first | (dsimp only [a0b]; omega) | omega) (Nat.zero_add _) (rfl) rfl rfl ?_
  simp only [a0p, a0k, SV.kill, CV.kill, kk, Nat.reduceBEq]
  refine a5F 8 rfl (by kernel_rfl) rfl rfl (a1v hT hB rfl rfl rfl (a1c (a0a rfl) rfl rfl rfl rfl rfl (a1c (a0a rfl) rfl rfl rfl rfl rfl (a1c (a0a rfl) rfl rfl rfl rfl rfl a1w)))) rfl rfl rfl rfl ?_
  refine a2i 9 [] (by kernel_rfl) ⟨?_, trivial⟩
  ·refine a8s 9 hT rfl rfl rfl rfl rfl rfl rfl rfl rfl rfl ?_
   refine a2i 10 [] (by kernel_rfl) ⟨?_, trivial⟩
   ·refine a5V 10 rfl rfl (by kernel_rfl) (a4z hT rfl rfl rfl (a0a rfl) (a0a rfl) rfl rfl rfl rfl rfl rfl) (by kernel_rfl) ?_
   exact a2z (a0e ⟨rfl, rfl, rfl, trivial⟩ ⟨rfl, rfl, rfl, trivial⟩ ⟨rfl, trivial⟩ rfl)
  ·refine a8s 9 hT rfl rfl rfl rfl rfl rfl rfl rfl rfl rfl ?_
  refine a2i 7 [] (by kernel_rfl) ⟨?_, trivial⟩
  ·refine a4d (k := 900) (cs := (x.2.2.2).flatMap a2y) (n := (x.2.2.2).length) 7 hT rfl rfl rfl rfl rfl rfl rfl rfl (a0a rfl) rfl rfl rfl (a0a rfl) (a3y (fun _ => rfl) _) (by first | (dsimp only [a0b]; omega) | omega) (by first | (dsimp only [a0b]; omega) | omega) (Nat.zero_add _) (rfl) rfl rfl ?_
   simp only [a0p, a0k, SV.kill, CV.kill, kk, Nat.reduceBEq]
   refine a5F 8 rfl (by kernel_rfl) rfl rfl (a1v hT hB rfl rfl rfl (a1c (a0a rfl) rfl rfl rfl rfl rfl (a1c (a0a rfl) rfl rfl rfl rfl rfl (a1c (a0a rfl) rfl rfl rfl rfl rfl a1w)))) rfl rfl rfl rfl ?_
   refine a2i 10 [] (by kernel_rfl) ⟨?_, trivial⟩
   ·refine a5V 10 rfl rfl (by kernel_rfl) (a4z hT rfl rfl rfl (a0a rfl) (a0a rfl) rfl rfl rfl rfl rfl rfl) (by kernel_rfl) ?_
   exact a2z (a0e ⟨rfl, rfl, rfl, trivial⟩ ⟨rfl, rfl, rfl, trivial⟩ ⟨rfl, trivial⟩ rfl)
 ·refine a8s 9 hT rfl rfl rfl rfl rfl rfl rfl rfl rfl rfl ?_
  refine a2i 4 [] (by kernel_rfl) ⟨?_, trivial⟩
  ·refine a8J (k := 900) 4 hT rfl rfl rfl rfl rfl rfl rfl rfl rfl rfl rfl rfl ?_
  refine a2i 7 [] (by kernel_rfl) ⟨?_, trivial⟩
  ·refine a4d (k := 900) (cs := (x.2.2.2).flatMap a2y) (n := (x.2.2.2).length) 7 hT rfl rfl rfl rfl rfl rfl rfl rfl (a0a rfl) rfl rfl rfl (a0a rfl) (a3y (fun _ => rfl) _) (by first | (dsimp only [a0b]; omega) | omega) (by first | (dsimp only [a0b]; omega) | omega) (Nat.zero_add _) (rfl) rfl rfl ?_
   simp only [a0p, a0k, SV.kill, CV.kill, kk, Nat.reduceBEq]
   refine a5F 8 rfl (by kernel_rfl) rfl rfl (a1v hT hB rfl rfl rfl (a1c (a0a rfl) rfl rfl rfl rfl rfl (a1c (a0a rfl) rfl rfl rfl rfl rfl (a1c (a0a rfl) rfl rfl rfl rfl rfl a1w)))) rfl rfl rfl rfl ?_
   refine a2i 10 [] (by kernel_rfl) ⟨?_, trivial⟩
   ·refine a5V 10 rfl rfl (by kernel_rfl) (a4z hT rfl rfl rfl (a0a rfl) (a0a rfl) rfl rfl rfl rfl rfl rfl) (by kernel_rfl) ?_
   exact a2z (a0e ⟨rfl, rfl, rfl, trivial⟩ ⟨rfl, rfl, rfl, trivial⟩ ⟨rfl, trivial⟩ rfl)
 refine a0s ?_
 refine a0s ?_
 refine a0h (a3s 31 (b := 3) (i := 2) (e := 77) (sz := 3) rfl rfl rfl rfl rfl) ?_
 simp only [a0p, a0k, SV.kill, CV.kill, kk, Nat.reduceBEq]
 refine a0n ?_
 iterate 6 refine z ?_
 refine a1l (ι := Nat) (fun zz => ⟨[(2, .box 2 0), (3, .box 3 0), (16, .one (.dv [] (a0y (x.2.2.1)))), (17, .one (.dv [] (.int .i64 ((((x.2.2.1)).length : Int))))), (18, .one (.dv [] (.int .i64 ((zz : Int)))))], [(1, 27, [(.dv [] (.str (x.1))), (.dv [] (.int .i64 (x.2.1))), (.dv [] (a0y (x.2.2.1))), (.dv [] (a0A (x.2.2.2)))]), (2, 27, [(.dv [] (.str (ByteArray.empty))), (.dv [] (.int .i64 (0))), .nil, .nil]), (3, 27, [(.dv [] (.str (x.1))), (.dv [] (.int .i64 (x.2.1))), (.key 31), (.key 900)])], [(31, some (a0b false (.sl 77 3 ((x.2.2.1.take zz).length) ((x.2.2.1.take zz).flatMap a1O)))), (900, some (a0b false (.sl 79 2 ((x.2.2.2).length) ((x.2.2.2).flatMap a2y))))]⟩) (fun zz => zz ≤ x.2.2.1.length) (fun zz => x.2.2.1.length - zz) (0) ?_ (a0e ⟨rfl, rfl, rfl, rfl, rfl, trivial⟩ ⟨rfl, rfl, rfl, trivial⟩ ⟨rfl, rfl, trivial⟩ rfl) (fun zz hx => ?_)
 ·exact Nat.zero_le _
 obtain ⟨k, rfl⟩ : ∃ v, v = zz := ⟨_, rfl⟩
 replace hx : k ≤ x.2.2.1.length := hx
 have hw := fun h => a5C a1g x.2.2.1 k h
 show Ok _ _ _ _ _ (⟨[(2, .box 2 0), (3, .box 3 0), (16, .one (.dv [] (a0y (x.2.2.1)))), (17, .one (.dv [] (.int .i64 ((((x.2.2.1)).length : Int))))), (18, .one (.dv [] (.int .i64 ((k : Int)))))], [(1, 27, [(.dv [] (.str (x.1))), (.dv [] (.int .i64 (x.2.1))), (.dv [] (a0y (x.2.2.1))), (.dv [] (a0A (x.2.2.2)))]), (2, 27, [(.dv [] (.str (ByteArray.empty))), (.dv [] (.int .i64 (0))), .nil, .nil]), (3, 27, [(.dv [] (.str (x.1))), (.dv [] (.int .i64 (x.2.1))), (.key 31), (.key 900)])], [(31, some (a0b false (.sl 77 3 ((x.2.2.1.take k).length) ((x.2.2.1.take k).flatMap a1O)))), (900, some (a0b false (.sl 79 2 ((x.2.2.2).length) ((x.2.2.2).flatMap a2y))))]⟩ : St)
 iterate 3 refine z ?_
 refine a0s ?_
 refine yQ rfl (fun c1 => ?_) fun c1 => ?_
 ·have d1 := of_decide_eq_true c1
 have hk2 : k < x.2.2.1.length := by omega
 obtain ⟨hw1, hw2⟩ := hw hk2
 iterate 10 refine z ?_
 refine a5w [0, 1, 2, 3, 4] (oB := [1, 2, 3, 5]) (oK := [31, 900]) (by kernel_rfl) rfl rfl ?_
 refine zD 0 ?_
 refine zD 1 ?_
 refine zD 2 ?_
 refine a2K 25000 3 rfl (by kernel_rfl) rfl rfl rfl Tryz.call57 (a6R (x := (((x.2.2.1)).getD ((k : Int)).toNat default)) (by omega)) (a0g (a0a rfl) (a0u (a0d a0c (a0d a0c (a0d a0c a0t)))) a0q) rfl rfl rfl rfl rfl ?_
 refine a7o (k := 26) (js := [25030]) 4 hT rfl (by kernel_rfl) rfl rfl rfl rfl rfl rfl rfl rfl rfl (a0a rfl) rfl rfl (a0o (a0R rfl) (a0o (a1f rfl) (a0o (a0R rfl) a1z rfl) rfl) rfl) (by decide) (by decide) rfl rfl (by decide) ?_
 simp only [a0p, a0k, SV.kill, CV.kill, kk, Nat.reduceBEq]
 refine a3C [5, 6, 7] rfl rfl (by kernel_rfl) ?_
 refine a3f (k := 31) (j := 26) (cs := (x.2.2.1.take (k + 1)).flatMap a1O) (n := (x.2.2.1.take (k + 1)).length) hT rfl rfl rfl rfl rfl rfl rfl (a0a rfl) rfl rfl rfl (a0a rfl) rfl rfl (by decide) (by dsimp only [a0b]; simp only [List.length_take]; omega) (by dsimp only [a0b]; simp only [List.length_take]; omega) ((b1D (enc := a1O) hk2).2) ((b1D (enc := a1O) hk2).1) ?_
 simp only [a0p, a0k, SV.kill, CV.kill, kk, Nat.reduceBEq]
 iterate 2 refine z ?_
 refine a1J ?_
 iterate 2 refine z ?_
 refine a0n ?_
 iterate 3 refine z ?_
 refine ⟨k + 1, ?_, ?_, a0e ⟨rfl, rfl, rfl, rfl, rfl, trivial⟩ ⟨rfl, rfl, rfl, trivial⟩ ⟨rfl, rfl, trivial⟩ rfl⟩
 ·omega
 ·omega
 ·have d1 := of_decide_eq_false c1
 iterate 9 refine z ?_
 refine a0h (σ' := ⟨[(2, .box 2 0)], [(2, 27, [(.dv [] (.str (x.1))), (.dv [] (.int .i64 (x.2.1))), (.key 31), (.key 900)])], [(31, some (a0b false (a0y (x.2.2.1)))), (900, some (a0b false (a0A (x.2.2.2))))]⟩) (a0e ⟨rfl, trivial⟩ ⟨rfl, trivial⟩ ⟨(congrArg (fun l : List (a0G) => some (some (KC.mk false 77 3 l.length (l.flatMap a1O)))) (List.take_of_length_le (by omega))), rfl, trivial⟩ rfl) ?_
 refine z ?_
 refine a1r (a0F hT rfl rfl rfl rfl) ?_
 exact ⟨rfl, rfl⟩
theorem a8W {x : DbT} (hb : a1h x ≤ 1099511627776) : KFn Tryz.prog 23 [.agg [(.dv [] (.str (x.1))), (.dv [] (.int .i64 (x.2.1))), (.dv [] (a0y (x.2.2.1))), (.dv [] (a0A (x.2.2.2)))]] (.agg [(.dv [] (.str (x.1))), (.dv [] (.int .i64 (x.2.1))), (.key 31), (.key 900)]) [(31, some (a0b false (a0y (x.2.2.1)))), (900, some (a0b false (a0A (x.2.2.2))))] := by
 refine ⟨a0Q Tryz.func23 rfl Tryz.ntmps23 Tryz.results23 rfl (fun C => ?_)⟩
 have hwd : a1h x = x.1.size + a2e a1g x.2.2.1 + a2e a2Y x.2.2.2 := rfl
 have hwl : a2e a1g x.2.2.1 = x.2.2.1.length + a0V a1g x.2.2.1 := rfl
 have hwi : a2e a2Y x.2.2.2 = x.2.2.2.length + a0V a2Y x.2.2.2 := rfl
 refine yF 0 0 rfl rfl fun f0_0 => ?_
 refine yF 0 1 rfl rfl fun f0_1 => ?_
 refine yF 0 2 rfl rfl fun f0_2 => ?_
 refine yF 0 3 rfl rfl fun f0_3 => ?_
 iterate 4 refine z ?_
 refine a7R (σ' := ⟨[(1, .box 1 0), (2, .box 2 0), (3, .box 3 0)], [(1, 27, [(.dv [] (.str (x.1))), (.dv [] (.int .i64 (x.2.1))), (.dv [] (a0y (x.2.2.1))), (.dv [] (a0A (x.2.2.2)))]), (2, 27, [(.dv [] (.str (ByteArray.empty))), (.dv [] (.int .i64 (0))), .nil, .nil]), (3, 27, [(.dv [] (.str (x.1))), (.dv [] (.int .i64 (x.2.1))), .nil, (.key 900)])], [(900, some (a0b false (.sl 79 2 ((x.2.2.2).length) ((x.2.2.2).flatMap a2y))))]⟩) ?_ ?_
 ·refine a5w [0, 1, 2, 3, 4, 5, 6, 7, 8, 9] (oB := [1, 2]) (oK := []) (by kernel_rfl) rfl rfl ?_
 refine b3d ?_
 refine zN 0 ?_
 refine zN 1 ?_
 refine zN 2 ?_
 refine zN 3 ?_
 refine zN 5 ?_
 refine zN 6 ?_
 refine a2i 4 [9] (by kernel_rfl) ⟨?_, ?_, trivial⟩
 ·refine a8J (k := 900) 4 hT rfl rfl rfl rfl rfl rfl rfl rfl rfl rfl rfl rfl ?_
  refine a2i 7 [9] (by kernel_rfl) ⟨?_, ?_, trivial⟩
  ·refine a4d (k := 900) (cs := (x.2.2.2).flatMap a2y) (n := (x.2.2.2).length) 7 hT rfl rfl rfl rfl rfl rfl rfl rfl (a0a rfl) rfl rfl rfl (a0a rfl) (a3y (fun _ => rfl) _) (by first | (dsimp only [a0b]; omega) | omega) (by first | (dsimp only [a0b]; omega) | omega) (Nat.zero_add _) (rfl) rfl rfl ?_
  simp only [a0p, a0k, SV.kill, CV.kill, kk, Nat.reduceBEq]
  refine a5F 8 rfl (by kernel_rfl) rfl rfl (a1v hT hB rfl rfl rfl (a1c (a0a rfl) rfl rfl rfl rfl rfl (a1c (a0a rfl) rfl rfl rfl rfl rfl (a1c (a0a rfl) rfl rfl rfl rfl rfl a1w)))) rfl rfl rfl rfl ?_
  refine a2i 9 [] (by kernel_rfl) ⟨?_, trivial⟩
  ·refine a8s 9 hT rfl rfl rfl rfl rfl rfl rfl rfl rfl rfl ?_
   refine a2i 10 [] (by kernel_rfl) ⟨?_, trivial⟩
   ·refine a5V 10 rfl rfl (by kernel_rfl) (a4z hT rfl rfl rfl (a0a rfl) (a0a rfl) rfl rfl rfl rfl rfl rfl) (by kernel_rfl) ?_
   exact a2z (a0e ⟨rfl, rfl, rfl, trivial⟩ ⟨rfl, rfl, rfl, trivial⟩ ⟨rfl, trivial⟩ rfl)
  ·refine a8s 9 hT rfl rfl rfl rfl rfl rfl rfl rfl rfl rfl ?_
  refine a2i 7 [] (by kernel_rfl) ⟨?_, trivial⟩
  ·refine a4d (k := 900) (cs := (x.2.2.2).flatMap a2y) (n := (x.2.2.2).length) 7 hT rfl rfl rfl rfl rfl rfl rfl rfl (a0a rfl) rfl rfl rfl (a0a rfl) (a3y (fun _ => rfl) _) (by first | (dsimp only [a0b]; omega) | omega) (by first | (dsimp only [a0b]; omega) | omega) (Nat.zero_add _) (rfl) rfl rfl ?_
   simp only [a0p, a0k, SV.kill, CV.kill, kk, Nat.reduceBEq]
   refine a5F 8 rfl (by kernel_rfl) rfl rfl (a1v hT hB rfl rfl rfl (a1c (a0a rfl) rfl rfl rfl rfl rfl (a1c (a0a rfl) rfl rfl rfl rfl rfl (a1c (a0a rfl) rfl rfl rfl rfl rfl a1w)))) rfl rfl rfl rfl ?_
   refine a2i 10 [] (by kernel_rfl) ⟨?_, trivial⟩
   ·refine a5V 10 rfl rfl (by kernel_rfl) (a4z hT rfl rfl rfl (a0a rfl) (a0a rfl) rfl rfl rfl rfl rfl rfl) (by kernel_rfl) ?_
   exact a2z (a0e ⟨rfl, rfl, rfl, trivial⟩ ⟨rfl, rfl, rfl, trivial⟩ ⟨rfl, trivial⟩ rfl)
 ·refine a8s 9 hT rfl rfl rfl rfl rfl rfl rfl rfl rfl rfl ?_
  refine a2i 4 [] (by kernel_rfl) ⟨?_, trivial⟩
  ·refine a8J (k := 900) 4 hT rfl rfl rfl rfl rfl rfl rfl rfl rfl rfl rfl rfl ?_
  refine a2i 7 [] (by kernel_rfl) ⟨?_, trivial⟩
  ·refine a4d (k := 900) (cs := (x.2.2.2).flatMap a2y) (n := (x.2.2.2).length) 7 hT rfl rfl rfl rfl rfl rfl rfl rfl (a0a rfl) rfl rfl rfl (a0a rfl) (a3y (fun _ => rfl) _) (by first | (dsimp only [a0b]; omega) | omega) (by first | (dsimp only [a0b]; omega) | omega) (Nat.zero_add _) (rfl) rfl rfl ?_
   simp only [a0p, a0k, SV.kill, CV.kill, kk, Nat.reduceBEq]
   refine a5F 8 rfl (by kernel_rfl) rfl rfl (a1v hT hB rfl rfl rfl (a1c (a0a rfl) rfl rfl rfl rfl rfl (a1c (a0a rfl) rfl rfl rfl rfl rfl (a1c (a0a rfl) rfl rfl rfl rfl rfl a1w)))) rfl rfl rfl rfl ?_
   refine a2i 10 [] (by kernel_rfl) ⟨?_, trivial⟩
   ·refine a5V 10 rfl rfl (by kernel_rfl) (a4z hT rfl rfl rfl (a0a rfl) (a0a rfl) rfl rfl rfl rfl rfl rfl) (by kernel_rfl) ?_
   exact a2z (a0e ⟨rfl, rfl, rfl, trivial⟩ ⟨rfl, rfl, rfl, trivial⟩ ⟨rfl, trivial⟩ rfl)
 refine a0s ?_
 refine a0s ?_
 refine a0h (a3s 31 (b := 3) (i := 2) (e := 77) (sz := 3) rfl rfl rfl rfl rfl) ?_
 simp only [a0p, a0k, SV.kill, CV.kill, kk, Nat.reduceBEq]
 refine a0n ?_
 iterate 3 refine z ?_
 refine a1l (ι := Nat) (fun zz => ⟨[(1, .box 1 0), (2, .box 2 0), (3, .box 3 0), (4, .one (.dv [] (.int .i64 ((zz : Int)))))], [(1, 27, [(.dv [] (.str (x.1))), (.dv [] (.int .i64 (x.2.1))), (.dv [] (a0y (x.2.2.1))), (.dv [] (a0A (x.2.2.2)))]), (2, 27, [(.dv [] (.str (ByteArray.empty))), (.dv [] (.int .i64 (0))), .nil, .nil]), (3, 27, [(.dv [] (.str (x.1))), (.dv [] (.int .i64 (x.2.1))), (.key 31), (.key 900)])], [(31, some (a0b false (.sl 77 3 ((x.2.2.1.take zz).length) ((x.2.2.1.take zz).flatMap a1O)))), (900, some (a0b false (.sl 79 2 ((x.2.2.2).length) ((x.2.2.2).flatMap a2y))))]⟩) (fun zz => zz ≤ x.2.2.1.length) (fun zz => x.2.2.1.length - zz) (0) ?_ (a0e ⟨rfl, rfl, rfl, rfl, trivial⟩ ⟨rfl, rfl, rfl, trivial⟩ ⟨rfl, rfl, trivial⟩ rfl) (fun zz hx => ?_)
 ·exact Nat.zero_le _
 obtain ⟨k, rfl⟩ : ∃ v, v = zz := ⟨_, rfl⟩
 replace hx : k ≤ x.2.2.1.length := hx
 have hw := fun h => a5C a1g x.2.2.1 k h
 show Ok _ _ _ _ _ (⟨[(1, .box 1 0), (2, .box 2 0), (3, .box 3 0), (4, .one (.dv [] (.int .i64 ((k : Int)))))], [(1, 27, [(.dv [] (.str (x.1))), (.dv [] (.int .i64 (x.2.1))), (.dv [] (a0y (x.2.2.1))), (.dv [] (a0A (x.2.2.2)))]), (2, 27, [(.dv [] (.str (ByteArray.empty))), (.dv [] (.int .i64 (0))), .nil, .nil]), (3, 27, [(.dv [] (.str (x.1))), (.dv [] (.int .i64 (x.2.1))), (.key 31), (.key 900)])], [(31, some (a0b false (.sl 77 3 ((x.2.2.1.take k).length) ((x.2.2.1.take k).flatMap a1O)))), (900, some (a0b false (.sl 79 2 ((x.2.2.2).length) ((x.2.2.2).flatMap a2y))))]⟩ : St)
 iterate 8 refine z ?_
 refine yQ rfl (fun c1 => ?_) fun c1 => ?_
 ·have d1 := of_decide_eq_true c1
 have hk2 : k < x.2.2.1.length := by omega
 obtain ⟨hw1, hw2⟩ := hw hk2
 iterate 4 refine z ?_
 refine a5w [0, 1, 2, 3, 4, 5, 6, 7, 8] (oB := [1, 2, 3]) (oK := [31, 900]) (by kernel_rfl) rfl rfl ?_
 refine zD 0 ?_
 refine zD 1 ?_
 refine zD 2 ?_
 refine zD 3 ?_
 refine zD 4 ?_
 refine zD 5 ?_
 refine zD 6 ?_
 refine a2K 28000 7 rfl (by kernel_rfl) rfl rfl rfl Tryz.call49 (a7q (x := (((x.2.2.1)).getD ((k : Int)).toNat default)) (by omega)) (a0g (a0a rfl) (a0u (a0d a0c (a0d a0c (a0d a0c a0t)))) a0q) rfl rfl rfl rfl rfl ?_
 refine a7o (k := 29) (js := [28030]) 8 hT rfl (by kernel_rfl) rfl rfl rfl rfl rfl rfl rfl rfl rfl (a0a rfl) rfl rfl (a0o (a0R rfl) (a0o (a1f rfl) (a0o (a0R rfl) a1z rfl) rfl) rfl) (by decide) (by decide) rfl rfl (by decide) ?_
 simp only [a0p, a0k, SV.kill, CV.kill, kk, Nat.reduceBEq]
 refine a3C [9, 10, 11] rfl rfl (by kernel_rfl) ?_
 refine a3f (k := 31) (j := 29) (cs := (x.2.2.1.take (k + 1)).flatMap a1O) (n := (x.2.2.1.take (k + 1)).length) hT rfl rfl rfl rfl rfl rfl rfl (a0a rfl) rfl rfl rfl (a0a rfl) rfl rfl (by decide) (by dsimp only [a0b]; simp only [List.length_take]; omega) (by dsimp only [a0b]; simp only [List.length_take]; omega) ((b1D (enc := a1O) hk2).2) ((b1D (enc := a1O) hk2).1) ?_
 simp only [a0p, a0k, SV.kill, CV.kill, kk, Nat.reduceBEq]
 iterate 2 refine z ?_
 refine a1J ?_
 iterate 2 refine z ?_
 refine a0n ?_
 iterate 4 refine z ?_
 refine ⟨k + 1, ?_, ?_, a0e ⟨rfl, rfl, rfl, rfl, trivial⟩ ⟨rfl, rfl, rfl, trivial⟩ ⟨rfl, rfl, trivial⟩ rfl⟩
 ·omega
 ·omega
 ·have d1 := of_decide_eq_false c1
 iterate 9 refine z ?_
 refine a0h (σ' := ⟨[(2, .box 2 0)], [(2, 27, [(.dv [] (.str (x.1))), (.dv [] (.int .i64 (x.2.1))), (.key 31), (.key 900)])], [(31, some (a0b false (a0y (x.2.2.1)))), (900, some (a0b false (a0A (x.2.2.2))))]⟩) (a0e ⟨rfl, trivial⟩ ⟨rfl, trivial⟩ ⟨(congrArg (fun l : List (a0G) => some (some (KC.mk false 77 3 l.length (l.flatMap a1O)))) (List.take_of_length_le (by omega))), rfl, trivial⟩ rfl) ?_
 refine z ?_
 refine a1r (a0F hT rfl rfl rfl rfl) ?_
 exact ⟨rfl, rfl⟩
def a4l (l : List UInt8) (n : Int) (g : List UInt8) : List UInt8 := l.take (max 0 (min n (l.length : Int))).toNat ++ g
def a1H (x : a3q) (n : Int) (g : List UInt8) : a3q := (x.1, a4l x.2.1 n g, x.2.2)
theorem c8y (l : List UInt8) (n : Int) (g : List UInt8) : (a4l l n g).length ≤ l.length + g.length := by rw [a4l, List.length_append, List.length_take]; omega
theorem b6J {x g : List UInt8} {n : Int} (hb : x.length ≤ 1099511627776) (hb2 : g.length ≤ 1099511627776) : KFn Tryz.prog 26 [.one (.dv [] (a0l (x))), .one (.dv [] (.int .i64 (n))), .one (.dv [] (a0l (g)))] (.one (.key 16003)) [(16003, some (a0b false (a0l (a4l x n g))))] := by
 refine ⟨a0Q Tryz.func26 rfl Tryz.ntmps26 Tryz.results26 rfl (fun C => ?_)⟩
 have htl : (x.take (max 0 (min n (x.length : Int))).toNat).length ≤ x.length := by rw [List.length_take]; omega
 refine a1k (x := .tmp 0) (a0a rfl) fun f0 => ?_
 refine a1k (x := .tmp 1) (a0a rfl) fun f1 => ?_
 refine a1k (x := .tmp 2) (a0a rfl) fun f2 => ?_
 iterate 7 refine z ?_
 refine yO rfl rfl (c4Z rfl (a0a rfl) (a0a rfl)) rfl ?_
 refine yO rfl rfl (c5F rfl (a0j (a0i rfl)) (a0a rfl)) rfl ?_
 iterate 5 refine z ?_
 refine yO rfl rfl (b2d hT rfl rfl rfl (a0a rfl) (a0a rfl) (fun _ => rfl) (by omega) (by omega)) rfl ?_
 refine zK 16000 Tryz.call40 ?_ (hf := b4o (x := (x.take (max 0 (min n (x.length : Int))).toNat)) (by omega))
 refine z ?_
 refine b0r (k := 16003) (cs := (a4l x n g).flatMap a1x) (n := (a4l x n g).length) hT rfl rfl rfl rfl rfl rfl rfl (a0a rfl) rfl rfl rfl (a0a rfl) (a3y (fun _ => rfl) _) (by dsimp only [a0b, KC.old]; omega) (by dsimp only [a0b, KC.old]; omega) (by rw [a4l, List.length_append] <;> rfl) (by rw [a4l, List.flatMap_append] <;> rfl) ?_
 simp only [a0p, a0k, SV.kill, CV.kill, kk, Nat.reduceBEq]
 iterate 2 refine z ?_
 refine a0h (σ' := ⟨[(6, .one (.key 16003))], [], [(16003, some (a0b false (a0l (a4l x n g))))]⟩) (a0e ⟨rfl, trivial⟩ trivial ⟨rfl, trivial⟩ rfl) ?_
 refine z ?_
 refine a1r (a0m rfl) ?_
 exact ⟨rfl, rfl⟩
theorem b3X {x : a3q} (hb : a2X x ≤ 1099511627776) : KFn Tryz.prog 19 [.agg [(.dv [] (.str (x.1.1))), (.dv [] (.int .i64 (x.1.2.1))), (.dv [] (a0y (x.1.2.2.1))), (.dv [] (a0A (x.1.2.2.2))), (.dv [] (a0l (x.2.1))), (.dv [] (.int .i64 (x.2.2)))]] (.agg [(.dv [] (.str (x.1.1))), (.dv [] (.int .i64 (x.1.2.1))), (.key 5031), (.key 5900), (.key 8003), (.dv [] (.int .i64 (x.2.2)))]) [(5031, some (a0b false (a0y (x.1.2.2.1)))), (5900, some (a0b false (a0A (x.1.2.2.2)))), (8003, some (a0b false (a0l (x.2.1))))] := by
 refine ⟨a0Q Tryz.func19 rfl Tryz.ntmps19 Tryz.results19 rfl (fun C => ?_)⟩
 have hwk : a2X x = a1h x.1 + x.2.1.length := rfl
 refine yF 0 0 rfl rfl fun f0_0 => ?_
 refine yF 0 1 rfl rfl fun f0_1 => ?_
 refine yF 0 2 rfl rfl fun f0_2 => ?_
 refine yF 0 3 rfl rfl fun f0_3 => ?_
 refine yF 0 4 rfl rfl fun f0_4 => ?_
 refine yF 0 5 rfl rfl fun f0_5 => ?_
 iterate 4 refine z ?_
 refine a0s ?_
 refine a1N (oB := [1, 2]) (oK := []) (by kernel_rfl) rfl rfl ?_
 refine zD 0 ?_
 refine zD 1 ?_
 refine zD 3 ?_
 refine zD 4 ?_
 refine zD 6 ?_
 refine zD 7 ?_
 refine a2K 5000 2 rfl (by kernel_rfl) rfl rfl rfl Tryz.call27 (a6u (x := x.1) (by omega)) (a0g (a0a rfl) (a0u (a0d a0c (a0d a0c (a0d a0c (a0d a0c a0t))))) a0q) rfl rfl rfl rfl rfl ?_
 refine a2K 8000 5 rfl (by kernel_rfl) rfl rfl rfl Tryz.call40 (b4o (x := x.2.1) (by omega)) (a0g (a0a rfl) (a0D a0c) a0q) rfl rfl rfl rfl rfl ?_
 refine a1q 8 rfl (by kernel_rfl) rfl rfl (a1v hT hB rfl rfl rfl (a1c (a0a rfl) rfl rfl rfl rfl rfl (a1c (a0a rfl) rfl rfl rfl rfl rfl (a1c (a0a rfl) rfl rfl rfl rfl rfl a1w)))) rfl rfl rfl rfl ?_
 refine b3l 9 rfl (by kernel_rfl) rfl (by kernel_rfl) (a4z hT rfl rfl rfl (a0a rfl) (a0a rfl) rfl rfl rfl rfl rfl rfl) (by kernel_rfl) ?_
 refine z ?_
 refine a0h (σ' := ⟨[(2, .box 2 0)], [(2, 29, [(.dv [] (.str (x.1.1))), (.dv [] (.int .i64 (x.1.2.1))), (.key 5031), (.key 5900), (.key 8003), (.dv [] (.int .i64 (x.2.2)))])], [(5031, some (a0b false (a0y (x.1.2.2.1)))), (5900, some (a0b false (a0A (x.1.2.2.2)))), (8003, some (a0b false (a0l (x.2.1))))]⟩) (a0e ⟨rfl, trivial⟩ ⟨rfl, trivial⟩ ⟨rfl, rfl, rfl, trivial⟩ rfl) ?_
 refine z ?_
 refine a1r (a0F hT rfl rfl rfl rfl) ?_
 exact ⟨rfl, rfl⟩
theorem c7T {x : a3q} {n : Int} {g : List UInt8} (hb : a2X x ≤ 1099511627776) (hb2 : g.length ≤ 1099511627776) : KFn Tryz.prog 8 [.agg [(.dv [] (.str (x.1.1))), (.dv [] (.int .i64 (x.1.2.1))), (.dv [] (a0y (x.1.2.2.1))), (.dv [] (a0A (x.1.2.2.2))), (.dv [] (a0l (x.2.1))), (.dv [] (.int .i64 (x.2.2)))], .one (.dv [] (.int .i64 (n))), .one (.dv [] (a0l (g)))] (.agg [(.dv [] (.str ((a1H x n g).1.1))), (.dv [] (.int .i64 ((a1H x n g).1.2.1))), (.key 14031), (.key 14900), (.key 30003), (.dv [] (.int .i64 ((a1H x n g).2.2)))]) [(14031, some (a0b false (a0y ((a1H x n g).1.2.2.1)))), (14900, some (a0b false (a0A ((a1H x n g).1.2.2.2)))), (30003, some (a0b false (a0l ((a1H x n g).2.1))))] := by
 refine ⟨a0Q Tryz.func8 rfl Tryz.ntmps8 Tryz.results8 rfl (fun C => ?_)⟩
 have hwk : a2X x = a1h x.1 + x.2.1.length := rfl
 refine yF 0 0 rfl rfl fun f0_0 => ?_
 refine yF 0 1 rfl rfl fun f0_1 => ?_
 refine yF 0 2 rfl rfl fun f0_2 => ?_
 refine yF 0 3 rfl rfl fun f0_3 => ?_
 refine yF 0 4 rfl rfl fun f0_4 => ?_
 refine yF 0 5 rfl rfl fun f0_5 => ?_
 refine a1k (x := .tmp 1) (a0a rfl) fun f1 => ?_
 refine a1k (x := .tmp 2) (a0a rfl) fun f2 => ?_
 iterate 6 refine z ?_
 refine zK 9000 Tryz.call19 ?_ (hf := b3X (x := x) (by omega))
 iterate 8 refine z ?_
 refine zK 14000 Tryz.call26 ?_ (hf := b6J (x := x.2.1) (g := g) (n := n) (by omega) (by omega))
 iterate 7 refine z ?_
 refine a0h (σ' := ⟨[(6, .box 6 0)], [(6, 29, [(.dv [] (.str ((a1H x n g).1.1))), (.dv [] (.int .i64 ((a1H x n g).1.2.1))), (.key 14031), (.key 14900), (.key 30003), (.dv [] (.int .i64 ((a1H x n g).2.2)))])], [(14031, some (a0b false (a0y ((a1H x n g).1.2.2.1)))), (14900, some (a0b false (a0A ((a1H x n g).1.2.2.2)))), (30003, some (a0b false (a0l ((a1H x n g).2.1))))]⟩) (a0e ⟨rfl, trivial⟩ ⟨rfl, trivial⟩ ⟨rfl, rfl, rfl, trivial⟩ rfl) ?_
 refine z ?_
 refine a1r (a0F hT rfl rfl rfl rfl) ?_
 exact ⟨rfl, rfl⟩
section
variable {α : Type} {enc : α → List DV} {sz : Nat} {q : α → Bool} {x : List α}
theorem a5a (hs : ∀ y, (enc y).length = sz) : ∀ xs : List α, (xs.flatMap enc).length = xs.length * sz
 | [] => by simp
 | y :: xs => by rw [List.flatMap_cons, List.length_append, a5a hs xs, hs, List.length_cons, Nat.add_mul, Nat.one_mul, Nat.add_comm]
theorem a9D {p : α → Bool} {d : α} : ∀ (xs : List α) (i : Int), 0 ≤ i → (a0r p xs i = -1 ∧ xs.any p = false) ∨ ∃ m, m < xs.length ∧ a0r p xs i = i + (m : Int) ∧ (xs.take m).any p = false ∧ p (xs.getD m d) = true
 | [], i, h => .inl ⟨rfl, rfl⟩
 | y :: xs, i, h => by
 rw [a0r]
 by_cases hp : p y = true
 ·rw [if_pos hp]
  exact .inr ⟨0, by simp, by simp, by simp, by simpa using hp⟩
 ·rw [if_neg hp]
  rcases a9D (p := p) (d := d) xs (i + 1) (by omega) with ⟨h1, h2⟩ | ⟨m, h1, h2, h3, h4⟩
  ·exact .inl ⟨h1, by simp [h2, hp]⟩
  ·exact .inr ⟨m + 1, by simpa using h1, by rw [h2]; omega, by simp [h3, hp], by simpa using h4⟩
def a3j (enc : α → List DV) (q : α → Bool) (x : List α) (k : Nat) (G : List DV) : List DV := ((x.take k).filter q).flatMap enc ++ (G ++ (x.drop k).flatMap enc)
theorem c1z (hs : ∀ y, (enc y).length = sz) {i k : Nat} {G : List DV} (hi : i = ((x.take k).filter q).length) (hG : G.length + i * sz = k * sz) (hk : k ≤ x.length) : (a3j enc q x k G).length = x.length * sz := by
 have e : (x.length - k) * sz + k * sz = x.length * sz := by rw [← Nat.add_mul]; congr 1; omega
 rw [a3j, List.length_append, List.length_append, a5a hs, a5a hs, ← hi, List.length_drop]
 omega
theorem b7Z (hs : ∀ y, (enc y).length = sz) {i k : Nat} {G : List DV} [Inhabited α] (hi : i = ((x.take k).filter q).length) (hG : G.length + i * sz = k * sz) (hk : k < x.length) : sub (k * sz) sz (a3j enc q x k G) = enc (x.getD k default) := by
 have e : x.drop k = x.getD k default :: x.drop (k + 1) := by rw [List.drop_eq_getElem_cons hk]; simp [List.getD, List.getElem?_eq_getElem hk]
 rw [a3j, ← List.append_assoc, e, List.flatMap_cons, sub, List.drop_left' (by rw [List.length_append, a5a hs, ← hi]; omega), List.take_left' (hs _)]
theorem c6Z (hs : ∀ y, (enc y).length = sz) {i k : Nat} {G : List DV} [Inhabited α] (hi : i = ((x.take k).filter q).length) (hG : G.length + i * sz = k * sz) (hk : k < x.length) (hik : i < k) (hq : q (x.getD k default) = true) :
 a1d (i * sz) (enc (x.getD k default)) (a1d (k * sz) (List.replicate sz .hole) (a3j enc q x k G)) = a3j enc q x (k + 1) (G.drop sz ++ List.replicate sz .hole) := by
 have e : x.drop k = x.getD k default :: x.drop (k + 1) := by rw [List.drop_eq_getElem_cons hk]; simp [List.getD, List.getElem?_eq_getElem hk]
 have m1 : (i + 1) * sz ≤ k * sz := Nat.mul_le_mul_right _ hik
 rw [Nat.add_mul, Nat.one_mul] at m1
 have l1 : (((x.take k).filter q).flatMap enc).length = i * sz := by rw [a5a hs, ← hi]
 have e1 : a1d (k * sz) (List.replicate sz DV.hole) (a3j enc q x k G) = ((x.take k).filter q).flatMap enc ++ (G.take sz ++ (G.drop sz ++ (List.replicate sz .hole ++ (x.drop (k + 1)).flatMap enc))) := by
 rw [a3j, e, List.flatMap_cons, ← List.append_assoc, a7e (by rw [List.length_append, l1]; omega) (by simp [hs])]
 rw [List.append_assoc, ← List.append_assoc (G.take sz), List.take_append_drop]
 rw [e1, a7e l1.symm (by rw [hs, List.length_take]; omega), a3j, List.take_add_one, List.getElem?_eq_getElem hk, List.filter_append, List.flatMap_append]
 have : x.getD k default = x[k] := by simp [List.getD, List.getElem?_eq_getElem hk]
 rw [this] at hq ⊢
 simp [hq]
theorem c6T (hs : ∀ y, (enc y).length = sz) {k : Nat} {G : List DV} [Inhabited α] (hk : k < x.length) (hq : q (x.getD k default) = false) : a3j enc q x k G = a3j enc q x (k + 1) (G ++ enc (x.getD k default)) ∧ ((x.take (k + 1)).filter q).length = ((x.take k).filter q).length := by
 have e : x.drop k = x.getD k default :: x.drop (k + 1) := by rw [List.drop_eq_getElem_cons hk]; simp [List.getD, List.getElem?_eq_getElem hk]
 have : x.getD k default = x[k] := by simp [List.getD, List.getElem?_eq_getElem hk]
 have e2 : (x.take (k + 1)).filter q = (x.take k).filter q := by
 rw [List.take_add_one, List.getElem?_eq_getElem hk, List.filter_append]
 rw [this] at hq
 simp [hq]
 refine ⟨?_, by rw [e2]⟩
 rw [a3j, a3j, e2, e, List.flatMap_cons]
 simp
theorem c7c {k : Nat} [Inhabited α] (hk : k < x.length) (hq : q (x.getD k default) = true) : ((x.take (k + 1)).filter q).length = ((x.take k).filter q).length + 1 := by
 have : x.getD k default = x[k] := by simp [List.getD, List.getElem?_eq_getElem hk]
 rw [List.take_add_one, List.getElem?_eq_getElem hk, List.filter_append]
 rw [this] at hq
 simp [hq]
theorem c5m (hs : ∀ y, (enc y).length = sz) {i k : Nat} {G : List DV} (hi : i = ((x.take k).filter q).length) (hG : G.length + i * sz = k * sz) (hk : k = x.length) : a1d (i * sz) (List.replicate ((x.length - i) * sz) .hole) (a3j enc q x k G) = (x.filter q).flatMap enc ++ List.replicate ((x.length - i) * sz) .hole := by
 subst hk
 rw [List.take_length] at hi
 have m : (x.length - i) * sz + i * sz = x.length * sz := by rw [← Nat.add_mul]; congr 1; have := List.length_filter_le q x; omega
 rw [a3j, List.take_length, List.drop_length, List.flatMap_nil]
 have := a7e (A := (x.filter q).flatMap enc) (B := G) (us := List.replicate ((x.length - i) * sz) DV.hole) (D := []) (off := i * sz) (by rw [a5a hs, hi]) (by simp; omega)
 simpa using this
theorem c2i (hs : ∀ y, (enc y).length = sz) {i : Nat} {H : List DV} (hi : i = (x.filter q).length) : ((x.filter q).flatMap enc ++ H).take (i * sz) = (x.filter q).flatMap enc := List.take_left' (by rw [a5a hs, hi])
theorem c2Z {m : Nat} [Inhabited α] (hm : m < x.length) (h3 : (x.take m).any (fun y => !q y) = false) (h4 : q (x.getD m default) = false) : x.flatMap enc = a3j enc q x (m + 1) (enc (x.getD m default)) ∧ m = ((x.take (m + 1)).filter q).length := by
 have e : x.drop m = x.getD m default :: x.drop (m + 1) := by rw [List.drop_eq_getElem_cons hm]; simp [List.getD, List.getElem?_eq_getElem hm]
 have this : x.getD m default = x[m] := by simp [List.getD, List.getElem?_eq_getElem hm]
 have e1 : (x.take m).filter q = x.take m := by
 rw [List.filter_eq_self]
 intro y hy
 rw [List.any_eq_false] at h3
 simpa using h3 y hy
 have e2 : (x.take (m + 1)).filter q = x.take m := by
 rw [List.take_add_one, List.getElem?_eq_getElem hm, List.filter_append, e1]
 rw [this] at h4
 simp [h4]
 refine ⟨?_, by rw [e2, List.length_take]; omega⟩
 rw [a3j, e2, ← List.flatMap_cons, ← e, ← List.flatMap_append, List.take_append_drop]
theorem c6J (h : x.any (fun y => !q y) = false) : x.filter q = x := by
 rw [List.filter_eq_self]
 intro y hy
 rw [List.any_eq_false] at h
 simpa using h y hy
end
def a4B (r : a3L) (y : a0U) : Bool := a6c y.1 r
def a1E (r : a3L) (y : a0U) : Bool := !a6c y.1 r
theorem b9Q (r : a3L) : (fun y => !a1E r y) = a4B r := by funext y; simp [a1E, a4B]
def a1L (x : a0G) (r : a3L) : a0G × Int := if a1i x then ((x.1, x.2.1.filter (a1E r), x.2.2), (x.2.1.length : Int) - ((x.2.1.filter (a1E r)).length : Int)) else (x, 0)
theorem b8x {p : a0U → Bool} {xs : List a0U} {k : Nat} (hk : k < xs.length) (h : p (xs.getD (k : Int).toNat default) = true) : ((xs.take k).filter p).flatMap a0H ++ a0H (xs.getD (k : Int).toNat default) = ((xs.take (k + 1)).filter p).flatMap a0H ∧ ((xs.take k).filter p).length + 1 = ((xs.take (k + 1)).filter p).length := by
 rw [c0t hk, if_pos h, List.flatMap_append, List.flatMap_cons, List.flatMap_nil, List.append_nil, List.length_append]
 exact ⟨rfl, rfl⟩
theorem c1v {p : a0U → Bool} {xs : List a0U} {k : Nat} (hk : k < xs.length) (h : p (xs.getD (k : Int).toNat default) = false) : (xs.take k).filter p = (xs.take (k + 1)).filter p := by
 rw [c0t hk, if_neg (by rw [h]; simp), List.append_nil]
theorem b8J {x : a0G} {r : a3L} (h : (!a1i x) = true) : a1L x r = (x, 0) := by rw [a1L, if_neg (by simpa using h)]
theorem b7v {x : a0G} {r : a3L} (h : (!a1i x) = false) : a1L x r = ((x.1, x.2.1.filter (a1E r), x.2.2), (x.2.1.length : Int) - ((x.2.1.filter (a1E r)).length : Int)) := by rw [a1L, if_pos (by simpa using h)]
theorem b8H {y : a0U} {r : a3L}  : PFn Tryz.prog 126 [.agg [(.dv [] (.int .i64 (y.1.1))), (.dv [] (.int .i64 (y.1.2.1))), (.dv [] (.str (y.1.2.2))), (.dv [] (a0J (y.2)))], .ref [] [.bool (r.1), .bool (r.2.1), .int .i64 (r.2.2.1.1), .int .i64 (r.2.2.1.2.1), .str (r.2.2.1.2.2), .int .i64 (r.2.2.2.1), .int .i64 (r.2.2.2.2.1), .str (r.2.2.2.2.2)]] (.one (.dv [] (.bool (a4B r y)))) := by
 refine ⟨a0Q Tryz.func126 rfl Tryz.ntmps126 Tryz.results126 rfl (fun C => ?_)⟩
 refine yF 0 0 rfl rfl fun f0_0 => ?_
 refine yF 0 1 rfl rfl fun f0_1 => ?_
 refine yF 0 2 rfl rfl fun f0_2 => ?_
 refine yF 0 3 rfl rfl fun f0_3 => ?_
 iterate 8 refine z ?_
 refine zC Tryz.call127 ?_ (hf := c5Y)
 iterate 4 refine z ?_
 rfl
theorem c0Z {x : List a0U} {r : a3L}  : PFn Tryz.prog 123 [.one (.dv [] (a0x (x))), .fn 126 [[.bool (r.1), .bool (r.2.1), .int .i64 (r.2.2.1.1), .int .i64 (r.2.2.1.2.1), .str (r.2.2.1.2.2), .int .i64 (r.2.2.2.1), .int .i64 (r.2.2.2.2.1), .str (r.2.2.2.2.2)]]] (.one (.dv [] (.int .i64 (a0r (a4B r) x 0)))) := by
 refine ⟨a0Q Tryz.func123 rfl Tryz.ntmps123 Tryz.results123 rfl (fun C => ?_)⟩
 refine a1k (x := .tmp 0) (a0a rfl) fun f0 => ?_
 iterate 10 refine z ?_
 refine a1l (ι := Nat) (fun zz => ⟨[(0, .one (.dv [] (a0x (x)))), (1, .fn 126 [[.bool (r.1), .bool (r.2.1), .int .i64 (r.2.2.1.1), .int .i64 (r.2.2.1.2.1), .str (r.2.2.1.2.2), .int .i64 (r.2.2.2.1), .int .i64 (r.2.2.2.2.1), .str (r.2.2.2.2.2)]]), (7, .one (.dv [] (.int .i64 ((((x)).length : Int))))), (8, .one (.dv [] (.int .i64 ((zz : Int)))))], [], []⟩) (fun zz => zz ≤ x.length ∧ (x.take zz).any (a4B r) = false) (fun zz => x.length - zz) (0) ?_ (a0e ⟨rfl, rfl, rfl, rfl, trivial⟩ trivial trivial rfl) (fun zz hx => ?_)
 ·exact ⟨Nat.zero_le _, rfl⟩
 obtain ⟨n, rfl⟩ : ∃ v, v = zz := ⟨_, rfl⟩
 replace hx : n ≤ x.length ∧ (x.take n).any (a4B r) = false := hx
 obtain ⟨hk, hall⟩ := hx
 show Ok _ _ _ _ _ (⟨[(0, .one (.dv [] (a0x (x)))), (1, .fn 126 [[.bool (r.1), .bool (r.2.1), .int .i64 (r.2.2.1.1), .int .i64 (r.2.2.1.2.1), .str (r.2.2.1.2.2), .int .i64 (r.2.2.2.1), .int .i64 (r.2.2.2.2.1), .str (r.2.2.2.2.2)]]), (7, .one (.dv [] (.int .i64 ((((x)).length : Int))))), (8, .one (.dv [] (.int .i64 ((n : Int)))))], [], []⟩ : St)
 iterate 3 refine z ?_
 refine a0s ?_
 refine yQ rfl (fun c1 => ?_) fun c1 => ?_
 ·have d1 := of_decide_eq_true c1
 iterate 14 refine z ?_
 refine a9C rfl rfl rfl (a0a rfl) Tryz.call126 b8H (a0g (a0a rfl) (a0u (a0d a0c (a0d a0c (a0d a0c (a0d a0c a0t))))) a0q) rfl rfl ?_
 refine z ?_
 refine yQ rfl (fun c2 => ?_) fun c2 => ?_
 ·iterate 11 refine z ?_
  exact (a5T (p := a4B r) (d := default) hall (by omega) c2).symm
 ·iterate 3 refine z ?_
  refine a0n ?_
  iterate 3 refine z ?_
  refine ⟨n + 1, ?_, ?_, a0e ⟨rfl, rfl, rfl, rfl, trivial⟩ trivial trivial rfl⟩
  ·exact ⟨by omega, a5X (d := default) hall (by omega) c2⟩
  ·omega
 ·have d1 := of_decide_eq_false c1
 iterate 10 refine z ?_
 exact (a6i (p := a4B r) hall (by omega)).symm
theorem c1K {x : List a0U} {r : a3L} (hb : x.length ≤ 1099511627776) : MFn Tryz.prog 125 [.fn 126 [[.bool (r.1), .bool (r.2.1), .int .i64 (r.2.2.1.1), .int .i64 (r.2.2.1.2.1), .str (r.2.2.1.2.2), .int .i64 (r.2.2.2.1), .int .i64 (r.2.2.2.2.1), .str (r.2.2.2.2.2)]]] (a0b false (.sl 119 4 (x.length) (x.flatMap a0H))) (a0b false (.sl 119 4 ((x.filter (a1E r)).length) ((x.filter (a1E r)).flatMap a0H))) := by
 refine ⟨a0Q Tryz.func125 rfl Tryz.ntmps125 Tryz.results125 rfl (fun C => ?_)⟩
 iterate 6 refine z ?_
 refine a3S rfl rfl rfl Tryz.call123 c0Z (a0g (a0a rfl) (a0D (a0X rfl rfl)) (a0g (a0a rfl) c5D a0q)) rfl rfl ?_
 iterate 7 refine z ?_
 refine yQ rfl (fun c1 => ?_) fun c1 => ?_
 ·have d1 := of_decide_eq_true c1
 have hn := (a9D (p := a4B r) (d := default) x 0 (by omega)).resolve_right (fun ⟨m, h1, h2, _⟩ => by omega)
 rw [← b9Q r] at hn
 have hfe := c6J hn.2
 iterate 4 refine z ?_
 refine a0h (σ' := ⟨[(4, .one (.key 0))], [], [(0, some (a0b false (.sl 119 4 ((x.filter (a1E r)).length) ((x.filter (a1E r)).flatMap a0H))))]⟩) (a0e ⟨rfl, trivial⟩ trivial ⟨(congrArg (fun l : List a0U => some (some (KC.mk false 119 4 l.length (l.flatMap a0H)))) hfe.symm), trivial⟩ rfl) ?_
 iterate 2 refine z ?_
 refine a1r (a0m rfl) ?_
 exact ⟨rfl, rfl⟩
 ·have d1 := of_decide_eq_false c1
 obtain ⟨m, hm1, hm2, hm3, hm4⟩ := (a9D (p := a4B r) (d := default) x 0 (by omega)).resolve_left (fun h => d1 h.1)
 rw [← b9Q r] at hm3
 have hm5 : a1E r (x.getD m default) = false := by unfold a1E; rw [show a6c (x.getD m default).1 r = true from hm4]; rfl
 have hst := c2Z (enc := a0H) hm1 hm3 hm5
 iterate 9 refine z ?_
 refine a1l (ι := Nat × Nat × List DV) (fun zz => ⟨[(0, .one (.key 0)), (1, .fn 126 [[.bool (r.1), .bool (r.2.1), .int .i64 (r.2.2.1.1), .int .i64 (r.2.2.1.2.1), .str (r.2.2.1.2.2), .int .i64 (r.2.2.2.1), .int .i64 (r.2.2.2.2.1), .str (r.2.2.2.2.2)]]), (4, .one .nil), (5, .one (.dv [] (.int .i64 ((zz.1 : Int))))), (6, .one (.dv [] (.int .i64 ((zz.2.1 : Int)))))], [], [(0, some (a0b false (.sl 119 4 (x.length) (a3j a0H (a1E r) x zz.2.1 zz.2.2))))]⟩) (fun zz => zz.1 = ((x.take zz.2.1).filter (a1E r)).length ∧ zz.1 < zz.2.1 ∧ zz.2.1 ≤ x.length ∧ zz.2.2.length + zz.1 * 4 = zz.2.1 * 4) (fun zz => x.length - zz.2.1) ((m, m + 1, a0H (x.getD m default))) ?_ (a0e ⟨rfl, rfl, rfl, (congrArg (fun z : Int => some (SV.one (CV.dv [] (DV.int .i64 z)))) (show a0r (a4B r) x 0 = (m : Int) by omega)), (congrArg (fun z : Int => some (SV.one (CV.dv [] (DV.int .i64 z)))) (show a0r (a4B r) x 0 + 1 = ((m + 1 : Nat) : Int) by omega)), trivial⟩ trivial ⟨(congrArg (fun cs => some (some (KC.mk false 119 4 x.length cs))) (hst.1)), trivial⟩ rfl) (fun zz hx => ?_)
 ·exact ⟨hst.2, by show m < m + 1; omega, by show m + 1 ≤ x.length; omega, by show 4 + m * 4 = (m + 1) * 4; omega⟩
 obtain ⟨i, k, G⟩ := zz
 replace hx : i = ((x.take k).filter (a1E r)).length ∧ i < k ∧ k ≤ x.length ∧ G.length + i * 4 = k * 4 := hx
 obtain ⟨hi, hik, hk, hG⟩ := hx
 show Ok _ _ _ _ _ (⟨[(0, .one (.key 0)), (1, .fn 126 [[.bool (r.1), .bool (r.2.1), .int .i64 (r.2.2.1.1), .int .i64 (r.2.2.1.2.1), .str (r.2.2.1.2.2), .int .i64 (r.2.2.2.1), .int .i64 (r.2.2.2.2.1), .str (r.2.2.2.2.2)]]), (4, .one .nil), (5, .one (.dv [] (.int .i64 ((i : Int))))), (6, .one (.dv [] (.int .i64 ((k : Int)))))], [], [(0, some (a0b false (.sl 119 4 (x.length) (a3j a0H (a1E r) x k G))))]⟩ : St)
 iterate 4 refine z ?_
 refine yO rfl rfl (a2J (n := (x.length)) hT rfl rfl (a0a rfl) rfl rfl) rfl ?_
 iterate 2 refine z ?_
 refine yQ rfl (fun c2 => ?_) fun c2 => ?_
 ·have d2 := of_decide_eq_true c2
  have hk2 : k < x.length := by omega
  iterate 7 refine z ?_
  refine yO rfl rfl (a4U (i := k) hT rfl rfl rfl (a0a rfl) rfl (a0a rfl) rfl (by show _ < (x.length); omega)) rfl ?_
  refine yO rfl rfl (b2T (ds := [.int .i64 ((x.getD (k : Int).toNat default).1.1), .int .i64 ((x.getD (k : Int).toNat default).1.2.1), .str ((x.getD (k : Int).toNat default).1.2.2), a0J ((x.getD (k : Int).toNat default).2)]) hT rfl rfl (a0a rfl) rfl rfl (by decide) (b7Z (enc := a0H) (q := a1E r) (sz := 4) (fun _ => rfl) hi hG hk2)) rfl ?_
  iterate 6 refine z ?_
  refine a9C rfl rfl rfl (a0a rfl) Tryz.call126 b8H (a0g (a0a rfl) (a0u (a0d a0c (a0d a0c (a0d a0c (a0d a9N a0t))))) a0q) rfl rfl ?_
  iterate 2 refine z ?_
  refine yQ rfl (fun c3 => ?_) fun c3 => ?_
  ·have hq : a1E r (x.getD k default) = true := c3
  have hy := c7c (q := a1E r) hk2 hq
  iterate 4 refine z ?_
  refine yO rfl rfl (a4U (i := i) hT rfl rfl rfl (a0a rfl) rfl (a0a rfl) rfl (by show _ < (x.length); omega)) rfl ?_
  refine c4G (src := k * 4) (ds := [.int .i64 ((x.getD (k : Int).toNat default).1.1), .int .i64 ((x.getD (k : Int).toNat default).1.2.1), .str ((x.getD (k : Int).toNat default).1.2.2), a0J ((x.getD (k : Int).toNat default).2)]) (cs := a3j a0H (a1E r) x (k + 1) (G.drop 4 ++ List.replicate 4 .hole)) hT rfl rfl rfl rfl (a0a rfl) (a0a rfl) rfl rfl (b7Z (enc := a0H) (q := a1E r) (sz := 4) (fun _ => rfl) hi hG hk2) (by omega) (by rw [c1z (sz := 4) (fun _ => rfl) hi hG hk]; omega) (c6Z (sz := 4) (fun _ => rfl) hi hG hk2 hik hq) ?_
  simp only [a0p, a0k, SV.kill, CV.kill, kk, Nat.reduceBEq]
  refine z ?_
  refine a0n ?_
  iterate 3 refine z ?_
  refine a1J ?_
  iterate 2 refine z ?_
  refine a0n ?_
  iterate 4 refine z ?_
  refine ⟨(i + 1, k + 1, (G.drop 4 ++ List.replicate 4 .hole)), ?_, ?_, a0e ⟨rfl, rfl, rfl, rfl, rfl, trivial⟩ trivial ⟨rfl, trivial⟩ rfl⟩
  ·exact ⟨by dsimp only; omega, by dsimp only; omega, by dsimp only; omega, by simp; omega⟩
  ·dsimp only; omega
  ·have hq : a1E r (x.getD k default) = false := c3
  have hno := c6T (enc := a0H) (q := a1E r) (sz := 4) (G := G) (fun _ => rfl) hk2 hq
  iterate 3 refine z ?_
  refine a0n ?_
  iterate 4 refine z ?_
  refine ⟨(i, k + 1, G ++ a0H (x.getD k default)), ?_, ?_, a0e ⟨rfl, rfl, rfl, rfl, rfl, trivial⟩ trivial ⟨(congrArg (fun cs => some (some (KC.mk false 119 4 x.length cs))) (hno.1)), trivial⟩ rfl⟩
  ·exact ⟨by dsimp only; omega, by dsimp only; omega, by dsimp only; omega, by show (G ++ a0H _).length + i * 4 = (k + 1) * 4; rw [List.length_append]; show G.length + 4 + i * 4 = _; omega⟩
  ·dsimp only; omega
 ·have d2 := of_decide_eq_false c2
  iterate 8 refine z ?_
  refine yO rfl rfl (c2p (j := 0) (n := (x.length)) (lo := i) (sz := 4) (z := (i : Int)) hT rfl rfl rfl (a0a rfl) rfl (a0a rfl) rfl rfl (by omega) (by omega)) rfl ?_
  refine c6y (k := 0) (lo := i) (hi := (x.length)) (sz := 4) (cs := (x.filter (a1E r)).flatMap a0H ++ List.replicate ((x.length - i) * 4) .hole) hT rfl rfl rfl rfl rfl rfl (a0a rfl) rfl rfl rfl (by first | omega | (dsimp only [a0b]; omega)) (by first | omega | (dsimp only [a0b]; omega)) (c5m (sz := 4) (fun _ => rfl) hi hG (by omega)) ?_
  simp only [a0p, a0k, SV.kill, CV.kill, kk, Nat.reduceBEq]
  iterate 4 refine z ?_
  refine yO rfl rfl (c8Y (j := 0) (n := (x.length)) (hi := i) (sz := 4) (z := (i : Int)) hT rfl rfl rfl (a0a rfl) rfl (a0a rfl) rfl rfl (by omega) (by omega)) rfl ?_
  iterate 2 refine z ?_
  have hke : k = x.length := by omega
  have hi2 : i = (x.filter (a1E r)).length := by rw [hi, hke, List.take_length]
  refine a0h (c9a (s := 4) (k := 0) (m := i) (sz := 4) (cs := (x.filter (a1E r)).flatMap a0H) rfl rfl rfl rfl (by first | omega | (dsimp only [a0b]; omega)) (c2i (sz := 4) (fun _ => rfl) hi2)) ?_
  simp only [a0p, a0k, SV.kill, CV.kill, kk, Nat.reduceBEq]
  refine a0h (σ' := ⟨[(4, .one (.key 0))], [], [(0, some (a0b false (.sl 119 4 ((x.filter (a1E r)).length) ((x.filter (a1E r)).flatMap a0H))))]⟩) (a0e ⟨rfl, trivial⟩ trivial ⟨(congrArg (fun n : Nat => some (some (KC.mk false 119 4 n ((x.filter (a1E r)).flatMap a0H)))) hi2), trivial⟩ rfl) ?_
  refine z ?_
  refine a1r (a0m rfl) ?_
  exact ⟨rfl, rfl⟩
theorem b7m {x : a0G} {r : a3L} (hb : a1g x ≤ 1099511627776) : KFn Tryz.prog 109 [.agg [(.dv [] (.str (x.1))), (.dv [] (a0x (x.2.1))), (.dv [] (.int .i64 (x.2.2)))], .agg [(.dv [] (.bool (r.1))), (.dv [] (.bool (r.2.1))), (.dv [] (.int .i64 (r.2.2.1.1))), (.dv [] (.int .i64 (r.2.2.1.2.1))), (.dv [] (.str (r.2.2.1.2.2))), (.dv [] (.int .i64 (r.2.2.2.1))), (.dv [] (.int .i64 (r.2.2.2.2.1))), (.dv [] (.str (r.2.2.2.2.2)))]] (.tup [(true, [(.dv [] (.str ((a1L x r).1.1))), (.key 9001), (.dv [] (.int .i64 ((a1L x r).1.2.2)))]), (false, [(.dv [] (.int .i64 ((a1L x r).2)))])]) [(9001, some (a0b false (a0x ((a1L x r).1.2.1))))] := by
 refine ⟨a0Q Tryz.func109 rfl Tryz.ntmps109 Tryz.results109 rfl (fun C => ?_)⟩
 have hlen : x.2.1.length ≤ 1099511627776 := by have h3 : a1g x = x.1.size + (x.2.1.length + a0V a1Q x.2.1) := rfl; omega
 have hfl := List.length_filter_le (a1E r) x.2.1
 refine yF 0 0 rfl rfl fun f0_0 => ?_
 refine yF 0 1 rfl rfl fun f0_1 => ?_
 refine yF 0 2 rfl rfl fun f0_2 => ?_
 refine yF 1 2 rfl rfl fun f1_2 => ?_
 refine yF 1 3 rfl rfl fun f1_3 => ?_
 refine yF 1 4 rfl rfl fun f1_4 => ?_
 refine yF 1 5 rfl rfl fun f1_5 => ?_
 refine yF 1 6 rfl rfl fun f1_6 => ?_
 refine yF 1 7 rfl rfl fun f1_7 => ?_
 iterate 8 refine z ?_
 refine zK 8971 Tryz.call57 ?_ (hf := a6R (x := x) (by omega))
 iterate 6 refine z ?_
 refine zC Tryz.call74 ?_ (hf := a8k (s := x) )
 iterate 2 refine z ?_
 refine yQ rfl (fun c1 => ?_) fun c1 => ?_
 ·iterate 5 refine z ?_
 rw [b8J c1]
 refine a0h (σ' := ⟨[(4, .box 4 0), (5, .one (.dv [] (.int .i64 (0))))], [(4, 77, [(.dv [] (.str ((x).1))), (.key 9001), (.dv [] (.int .i64 ((x).2.2)))])], [(9001, some (a0b false (a0x (x.2.1))))]⟩) (a0e ⟨rfl, rfl, trivial⟩ ⟨rfl, trivial⟩ ⟨rfl, trivial⟩ rfl) ?_
 iterate 2 refine z ?_
 refine a1u (a0F hT rfl rfl rfl rfl) (a0m rfl) rfl rfl ?_
 first | exact ⟨rfl, rfl⟩ | skip
 ·iterate 5 refine z ?_
 refine yO rfl rfl (b1d rfl (a0a rfl)) rfl ?_
 refine c1P (k := 9001) rfl rfl rfl rfl Tryz.call125 (c1K (x := x.2.1) (r := r) (by omega)) (a0a rfl) rfl (rfl) rfl (c5f (a0a rfl) (c2C (b2o rfl rfl b1t)) c8A) ?_
 simp only [a0p, a0k, SV.kill, CV.kill, kk, Nat.reduceBEq]
 iterate 3 refine z ?_
 refine a0s ?_
 refine a9I 4 (oB := [2, 3, 6]) (oK := [9001]) (by kernel_rfl) rfl rfl ?_
 refine a1I 0 rfl (by kernel_rfl) rfl rfl (a4C hT rfl rfl (a0a rfl) rfl rfl) rfl rfl rfl rfl rfl ?_
 refine a1I 1 rfl (by kernel_rfl) rfl rfl (a5B hT rfl rfl rfl (a0a rfl)) rfl rfl rfl rfl rfl ?_
 refine a1I 2 rfl (by kernel_rfl) rfl rfl (a4h hT rfl rfl (a0a rfl) rfl rfl) rfl rfl rfl rfl rfl ?_
 refine a1I 3 rfl (by kernel_rfl) rfl rfl (a6E hT rfl rfl (a0a rfl)) rfl rfl rfl rfl rfl ?_
 refine a1I 4 rfl (by kernel_rfl) rfl rfl (a5B hT rfl rfl rfl (a0a rfl)) rfl rfl rfl rfl rfl ?_
 refine a1I 5 rfl (by kernel_rfl) rfl rfl (a4h hT rfl rfl (a0a rfl) rfl rfl) rfl rfl rfl rfl rfl ?_
 refine a1I 6 rfl (by kernel_rfl) rfl rfl (a2J (n := ((x.2.1.filter (a1E r)).length)) hT rfl rfl (a0a rfl) rfl rfl) rfl rfl rfl rfl rfl ?_
 refine a1I 7 rfl (by kernel_rfl) rfl rfl (b0l rfl (a0a rfl) (a0a rfl) (a2L (by omega) (by omega))) rfl rfl rfl rfl rfl ?_
 refine a9f 8 rfl (by kernel_rfl) rfl hT rfl rfl rfl (a0a rfl) (a0a rfl) rfl rfl rfl rfl rfl rfl ?_
 refine a9x [9] rfl rfl (by kernel_rfl) ?_
 iterate 2 refine z ?_
 rw [b7v c1]
 refine a0h (σ' := ⟨[(4, .box 4 0), (5, .one (.dv [] (.int .i64 (((((x.2.1)).length : Int)) - ((((x.2.1.filter (a1E r)).length) : Int))))))], [(4, 77, [(.dv [] (.str ((x).1))), (.key 9001), (.dv [] (.int .i64 ((x).2.2)))])], [(9001, some (a0b false (a0x (x.2.1.filter (a1E r)))))]⟩) (a0e ⟨rfl, rfl, trivial⟩ ⟨rfl, trivial⟩ ⟨rfl, trivial⟩ rfl) ?_
 refine z ?_
 refine a1u (a0F hT rfl rfl rfl rfl) (a0m rfl) rfl rfl ?_
 first | exact ⟨rfl, rfl⟩ | skip
theorem c0L {x : a0G} {r : a3L} (hb : a1g x ≤ 1099511627776) : KFn Tryz.prog 91 [.agg [(.dv [] (.str (x.1))), (.dv [] (a0x (x.2.1))), (.dv [] (.int .i64 (x.2.2)))], .agg [(.dv [] (.bool (r.1))), (.dv [] (.bool (r.2.1))), (.dv [] (.int .i64 (r.2.2.1.1))), (.dv [] (.int .i64 (r.2.2.1.2.1))), (.dv [] (.str (r.2.2.1.2.2))), (.dv [] (.int .i64 (r.2.2.2.1))), (.dv [] (.int .i64 (r.2.2.2.2.1))), (.dv [] (.str (r.2.2.2.2.2)))]] (.tup [(true, [(.dv [] (.str ((a1L x r).1.1))), (.key 9001), (.dv [] (.int .i64 ((a1L x r).1.2.2)))]), (false, [(.dv [] (.int .i64 ((a1L x r).2)))])]) [(9001, some (a0b false (a0x ((a1L x r).1.2.1))))] := by
 refine ⟨a0Q Tryz.func91 rfl Tryz.ntmps91 Tryz.results91 rfl (fun C => ?_)⟩
 have hlen : x.2.1.length ≤ 1099511627776 := by have h3 : a1g x = x.1.size + (x.2.1.length + a0V a1Q x.2.1) := rfl; omega
 have hfl := List.length_filter_le (a1E r) x.2.1
 refine yF 0 0 rfl rfl fun f0_0 => ?_
 refine yF 0 1 rfl rfl fun f0_1 => ?_
 refine yF 0 2 rfl rfl fun f0_2 => ?_
 refine yF 1 2 rfl rfl fun f1_2 => ?_
 refine yF 1 3 rfl rfl fun f1_3 => ?_
 refine yF 1 4 rfl rfl fun f1_4 => ?_
 refine yF 1 5 rfl rfl fun f1_5 => ?_
 refine yF 1 6 rfl rfl fun f1_6 => ?_
 refine yF 1 7 rfl rfl fun f1_7 => ?_
 iterate 9 refine z ?_
 refine zC Tryz.call50 ?_ (hf := b3H (s := x) )
 iterate 2 refine z ?_
 refine yQ rfl (fun c1 => ?_) fun c1 => ?_
 ·iterate 2 refine z ?_
 refine zK 8971 Tryz.call49 ?_ (hf := a7q (x := x) (by omega))
 iterate 3 refine z ?_
 rw [b8J c1]
 refine a0h (σ' := ⟨[(4, .box 4 0), (5, .one (.dv [] (.int .i64 (0))))], [(4, 77, [(.dv [] (.str ((x).1))), (.key 9001), (.dv [] (.int .i64 ((x).2.2)))])], [(9001, some (a0b false (a0x (x.2.1))))]⟩) (a0e ⟨rfl, rfl, trivial⟩ ⟨rfl, trivial⟩ ⟨rfl, trivial⟩ rfl) ?_
 iterate 2 refine z ?_
 refine a1u (a0F hT rfl rfl rfl rfl) (a0m rfl) rfl rfl ?_
 exact ⟨rfl, rfl⟩
 ·iterate 7 refine z ?_
 refine yO rfl rfl (a1v hT hB rfl rfl rfl (a1c (a0a rfl) rfl rfl rfl rfl rfl (a1c (a0a rfl) rfl rfl rfl rfl rfl a1w))) rfl ?_
 iterate 3 refine z ?_
 refine a0s ?_
 refine a0s ?_
 refine a0h (a3s 9001 (b := 6) (i := 1) (e := 119) (sz := 4) rfl rfl rfl rfl rfl) ?_
 simp only [a0p, a0k, SV.kill, CV.kill, kk, Nat.reduceBEq]
 refine a0n ?_
 iterate 3 refine z ?_
 refine a1l (ι := Nat) (fun zz => ⟨[(2, .box 2 0), (3, .box 3 0), (4, .box 4 0), (5, .one (.dv [] (.int .i64 (0)))), (6, .box 6 0), (7, .one (.dv [] (.int .i64 ((zz : Int)))))], [(2, 77, [(.dv [] (.str (x.1))), (.dv [] (a0x (x.2.1))), (.dv [] (.int .i64 (x.2.2)))]), (3, 146, [(.dv [] (.bool (r.1))), (.dv [] (.bool (r.2.1))), (.dv [] (.int .i64 (r.2.2.1.1))), (.dv [] (.int .i64 (r.2.2.1.2.1))), (.dv [] (.str (r.2.2.1.2.2))), (.dv [] (.int .i64 (r.2.2.2.1))), (.dv [] (.int .i64 (r.2.2.2.2.1))), (.dv [] (.str (r.2.2.2.2.2)))]), (4, 77, [(.dv [] (.str (ByteArray.empty))), .nil, (.dv [] (.int .i64 (0)))]), (6, 77, [(.dv [] (.str (x.1))), (.key 9001), (.dv [] (.int .i64 (x.2.2)))])], [(9001, some (a0b false (.sl 119 4 (((x.2.1.take zz).filter (a1E r)).length) (((x.2.1.take zz).filter (a1E r)).flatMap a0H))))]⟩) (fun zz => zz ≤ x.2.1.length) (fun zz => x.2.1.length - zz) (0) ?_ (a0e ⟨rfl, rfl, rfl, rfl, rfl, rfl, trivial⟩ ⟨rfl, rfl, rfl, rfl, trivial⟩ ⟨rfl, trivial⟩ rfl) (fun zz hx => ?_)
 ·exact Nat.zero_le _
 obtain ⟨k, rfl⟩ : ∃ v, v = zz := ⟨_, rfl⟩
 replace hx : k ≤ x.2.1.length := hx
 have hw := fun h => a5C a1Q x.2.1 k h
 show Ok _ _ _ _ _ (⟨[(2, .box 2 0), (3, .box 3 0), (4, .box 4 0), (5, .one (.dv [] (.int .i64 (0)))), (6, .box 6 0), (7, .one (.dv [] (.int .i64 ((k : Int)))))], [(2, 77, [(.dv [] (.str (x.1))), (.dv [] (a0x (x.2.1))), (.dv [] (.int .i64 (x.2.2)))]), (3, 146, [(.dv [] (.bool (r.1))), (.dv [] (.bool (r.2.1))), (.dv [] (.int .i64 (r.2.2.1.1))), (.dv [] (.int .i64 (r.2.2.1.2.1))), (.dv [] (.str (r.2.2.1.2.2))), (.dv [] (.int .i64 (r.2.2.2.1))), (.dv [] (.int .i64 (r.2.2.2.2.1))), (.dv [] (.str (r.2.2.2.2.2)))]), (4, 77, [(.dv [] (.str (ByteArray.empty))), .nil, (.dv [] (.int .i64 (0)))]), (6, 77, [(.dv [] (.str (x.1))), (.key 9001), (.dv [] (.int .i64 (x.2.2)))])], [(9001, some (a0b false (.sl 119 4 (((x.2.1.take k).filter (a1E r)).length) (((x.2.1.take k).filter (a1E r)).flatMap a0H))))]⟩ : St)
 iterate 8 refine z ?_
 refine yQ rfl (fun c2 => ?_) fun c2 => ?_
 ·have d2 := of_decide_eq_true c2
  have hk2 : k < x.2.1.length := by omega
  have hrec : a1Q (x.2.1.getD (k : Int).toNat default) ≤ 1099511627776 := by have := hw hk2; have h3 : a1g x = x.1.size + (x.2.1.length + a0V a1Q x.2.1) := rfl; omega
  iterate 4 refine z ?_
  refine a0s ?_
  refine a1N (oB := [2, 3, 4, 6]) (oK := [9001]) (by kernel_rfl) rfl rfl ?_
  refine zD 0 ?_
  refine zD 1 ?_
  refine zD 2 ?_
  refine zD 3 ?_
  refine zD 4 ?_
  refine zD 5 ?_
  refine zD 6 ?_
  refine a5A 7 rfl (by kernel_rfl) rfl rfl rfl Tryz.call116 (c1g (x := (((x.2.1)).getD ((k : Int)).toNat default).1) (y := r) ) (a0g (a0a rfl) (a0u (a0d a0c (a0d a0c (a0d a0c a0t)))) (a0g (a0a rfl) (a0u (a0d a0c (a0d a0c (a0d a0c (a0d a0c (a0d a0c (a0d a0c (a0d a0c (a0d a0c a0t))))))))) a0q)) rfl rfl rfl rfl ?_
  refine zD 8 ?_
  refine a1S (by kernel_rfl) ?_
  refine z ?_
  refine yQ rfl (fun c3 => ?_) fun c3 => ?_
  ·have hq : a1E r (x.2.1.getD (k : Int).toNat default) = true := c3
  refine a5w [0, 1, 2, 3, 4, 5, 6, 7, 8] (oB := [2, 3, 4, 6]) (oK := [9001]) (by kernel_rfl) rfl rfl ?_
  refine zD 0 ?_
  refine zD 1 ?_
  refine zD 2 ?_
  refine zD 3 ?_
  refine zD 4 ?_
  refine zD 5 ?_
  refine zD 6 ?_
  refine a2K 41000 7 rfl (by kernel_rfl) rfl rfl rfl Tryz.call84 (b3q (x := (x.2.1.getD (k : Int).toNat default)) (by exact Nat.le_trans (a6j _) hrec)) (a0g (a0a rfl) (a0u (a0d a0c (a0d a0c (a0d a0c (a0d a0c a0t))))) a0q) rfl rfl rfl rfl rfl ?_
  refine a7o (k := 42) (js := [48003]) 8 hT rfl (by kernel_rfl) rfl rfl rfl rfl rfl rfl rfl rfl rfl (a0a rfl) rfl rfl (a0o (a0R rfl) (a0o (a0R rfl) (a0o (a0R rfl) (a0o (a1f rfl) a1z rfl) rfl) rfl) rfl) (by decide) (by decide) rfl rfl (by decide) ?_
  simp only [a0p, a0k, SV.kill, CV.kill, kk, Nat.reduceBEq]
  refine a3C [9, 10, 11] rfl rfl (by kernel_rfl) ?_
  refine a3f (k := 9001) (j := 42) (cs := ((x.2.1.take (k + 1)).filter (a1E r)).flatMap a0H) (n := ((x.2.1.take (k + 1)).filter (a1E r)).length) hT rfl rfl rfl rfl rfl rfl rfl (a0a rfl) rfl rfl rfl (a0a rfl) rfl rfl (by decide) (by have := List.length_filter_le (a1E r) (x.2.1.take k); rw [List.length_take] at this; dsimp only [a0b]; omega) (by have := List.length_filter_le (a1E r) (x.2.1.take k); rw [List.length_take] at this; dsimp only [a0b]; omega) ((b8x hk2 hq).2) ((b8x hk2 hq).1) ?_
  simp only [a0p, a0k, SV.kill, CV.kill, kk, Nat.reduceBEq]
  iterate 2 refine z ?_
  refine a1J ?_
  iterate 2 refine z ?_
  refine a0n ?_
  iterate 4 refine z ?_
  refine ⟨k + 1, ?_, ?_, a0e ⟨rfl, rfl, rfl, rfl, rfl, rfl, trivial⟩ ⟨rfl, rfl, rfl, rfl, trivial⟩ ⟨rfl, trivial⟩ rfl⟩
  ·omega
  ·omega
  ·have hq : a1E r (x.2.1.getD (k : Int).toNat default) = false := c3
  iterate 3 refine z ?_
  refine a0n ?_
  iterate 4 refine z ?_
  refine ⟨k + 1, ?_, ?_, a0e ⟨rfl, rfl, rfl, rfl, rfl, rfl, trivial⟩ ⟨rfl, rfl, rfl, rfl, trivial⟩ ⟨(congrArg (fun l : List a0U => some (some (KC.mk false 119 4 l.length (l.flatMap a0H)))) (c1v hk2 hq)), trivial⟩ rfl⟩
  ·omega
  ·omega
 ·have d2 := of_decide_eq_false c2
  have hfin : ((x.2.1.take k).filter (a1E r)) = (x.2.1.filter (a1E r)) := by rw [List.take_of_length_le (by omega)]
  have hfl2 : ((x.2.1.take k).filter (a1E r)).length ≤ x.2.1.length := by rw [hfin]; exact hfl
  iterate 5 refine z ?_
  refine a0s ?_
  refine a9I 4 (oB := [2, 3, 6]) (oK := [9001]) (by kernel_rfl) rfl rfl ?_
  refine a1I 0 rfl (by kernel_rfl) rfl rfl (a4C hT rfl rfl (a0a rfl) rfl rfl) rfl rfl rfl rfl rfl ?_
  refine a1I 1 rfl (by kernel_rfl) rfl rfl (a5B hT rfl rfl rfl (a0a rfl)) rfl rfl rfl rfl rfl ?_
  refine a1I 2 rfl (by kernel_rfl) rfl rfl (a4h hT rfl rfl (a0a rfl) rfl rfl) rfl rfl rfl rfl rfl ?_
  refine a1I 3 rfl (by kernel_rfl) rfl rfl (a6E hT rfl rfl (a0a rfl)) rfl rfl rfl rfl rfl ?_
  refine a1I 4 rfl (by kernel_rfl) rfl rfl (a5B hT rfl rfl rfl (a0a rfl)) rfl rfl rfl rfl rfl ?_
  refine a1I 5 rfl (by kernel_rfl) rfl rfl (a4h hT rfl rfl (a0a rfl) rfl rfl) rfl rfl rfl rfl rfl ?_
  refine a1I 6 rfl (by kernel_rfl) rfl rfl (a2J (n := (((x.2.1.take k).filter (a1E r)).length)) hT rfl rfl (a0a rfl) rfl rfl) rfl rfl rfl rfl rfl ?_
  refine a1I 7 rfl (by kernel_rfl) rfl rfl (b0l rfl (a0a rfl) (a0a rfl) (a2L (by omega) (by omega))) rfl rfl rfl rfl rfl ?_
  refine a9f 8 rfl (by kernel_rfl) rfl hT rfl rfl rfl (a0a rfl) (a0a rfl) rfl rfl rfl rfl rfl rfl ?_
  refine a9x [9] rfl rfl (by kernel_rfl) ?_
  iterate 2 refine z ?_
  rw [b7v c1]
  refine a0h (σ' := ⟨[(4, .box 4 0), (5, .one (.dv [] (.int .i64 (((((x.2.1)).length : Int)) - (((((x.2.1.take k).filter (a1E r)).length) : Int))))))], [(4, 77, [(.dv [] (.str (x.1))), (.key 9001), (.dv [] (.int .i64 (x.2.2)))])], [(9001, some (a0b false (a0x (x.2.1.filter (a1E r)))))]⟩) (a0e ⟨rfl, rfl, trivial⟩ ⟨rfl, trivial⟩ ⟨(congrArg (fun l : List a0U => some (some (KC.mk false 119 4 l.length (l.flatMap a0H)))) hfin), trivial⟩ rfl) ?_
  refine z ?_
  refine a1u (a0F hT rfl rfl rfl rfl) (a0m rfl) rfl rfl ?_
  exact ⟨by rw [hfin], rfl⟩
theorem c0P : ∀ x : List UInt8, Op.bytesLess x x = false
 | [] => rfl
 | a :: x => by simp [Op.bytesLess, c0P x]
theorem b7G : ∀ x y z : List UInt8, Op.bytesLess x y = true → Op.bytesLess y z = true → Op.bytesLess x z = true
 | x, [], z, h, _ => by cases x <;> simp [Op.bytesLess] at h
 | x, b :: y, [], _, h => by simp [Op.bytesLess] at h
 | [], b :: y, c :: z, _, _ => rfl
 | a :: x, b :: y, c :: z, h1, h2 => by
 simp only [Op.bytesLess, Bool.or_eq_true, decide_eq_true_eq, Bool.and_eq_true, beq_iff_eq] at h1 h2 ⊢
 rcases h1 with h1 | ⟨rfl, h1⟩
 ·rcases h2 with h2 | ⟨rfl, h2⟩
  ·exact .inl (UInt8.lt_trans h1 h2)
  ·exact .inl h1
 ·rcases h2 with h2 | ⟨rfl, h2⟩
  ·exact .inl h2
  ·exact .inr ⟨rfl, b7G x y z h1 h2⟩
def a2n (n : Str) : a0v → Nat
 | [] => 0
 | y :: ys => if sLt y.1 n then a2n n ys + 1 else 0
def a3A (l : a0v) (i : Nat) (v : Int) : a0v := l.set i ((l.getD i default).1, v)
def a2u (l : a0v) (j : Nat) (y : a4R) : a0v := l.take j ++ y :: l.drop j
def a5G (n : Str) (r : a0v) : Bool := decide (a2n n r < r.length) && sEq (r.getD (a2n n r) default).1 n
def a4u (r : a0v) (n : Str) (v : Int) : a0v := if a5G n r then a3A r (a2n n r) v else a2u r (a2n n r) (n, v)
def a1G (r : a0v) (n : Str) (v : Int) : a0v × Bool := if !a1b r || !a1b (a4u r n v) then (r, false) else (a4u r n v, true)
theorem b1B {r o : a0v} {n : Str} {v : Int} (ho : a1b r = true → o = a4u r n v) (h : (!a1b r || !a1b o) = true) : a1G r n v = (r, false) := by
 unfold a1G
 by_cases hr : a1b r = true
 ·rw [← ho hr, if_pos h]
 ·rw [if_pos (by simp [hr])]
theorem b1s {r o : a0v} {n : Str} {v : Int} (ho : a1b r = true → o = a4u r n v) (h : (!a1b r || !a1b o) = false) : a1G r n v = (o, true) := by
 have hr : a1b r = true := by cases hh : a1b r <;> simp_all
 rw [a1G, ← ho hr, if_neg (by rw [h]; simp)]
theorem b3j {l : a0v} {j : Nat} (h : j < l.length) : l.drop j = l.getD j default :: l.drop (j + 1) := by
 rw [List.drop_eq_getElem_cons h]
 simp [List.getD, List.getElem?_eq_getElem h]
def srt : a0v → Prop
 | [] => True
 | y :: ys => (∀ z ∈ ys, sLt y.1 z.1 = true) ∧ srt ys
theorem b9P {r : a0v} (h : a1b r = true) (i : Nat) (hi : i + 1 < r.length) : sLt (r.getD i default).1 (r.getD (i + 1) default).1 = true := by
 rw [a1b, Bool.and_eq_true, List.all_eq_true] at h
 have := h.1 (i + 1) (List.mem_range.2 hi)
 simp only [a4N, Bool.not_eq_true', Bool.or_eq_false_iff, Int.toNat_natCast] at this
 have h2 := this.2
 rw [decide_eq_true (by omega : (0 : Int) < ((i + 1 : Nat) : Int)), Bool.true_and, a7N, show (((i + 1 : Nat) : Int) - 1).toNat = i by omega] at h2
 simpa using h2
theorem b2D : ∀ (l : a0v), (∀ i, i + 1 < l.length → sLt (l.getD i default).1 (l.getD (i + 1) default).1 = true) → srt l
 | [], _ => trivial
 | [y], _ => ⟨by simp, trivial⟩
 | y :: z :: l, h => by
 have ih := b2D (z :: l) (fun i hi => by have := h (i + 1) (by simp only [List.length_cons] at hi ⊢; omega); simpa using this)
 have h0 : sLt y.1 z.1 = true := by simpa using h 0 (by simp)
 refine ⟨fun u hu => ?_, ih⟩
 rcases List.mem_cons.1 hu with rfl | hu
 ·exact h0
 ·exact b7G _ _ _ h0 (ih.1 u hu)
theorem b6o {a b n : Str} (h : sEq a b = true) : sLt n a = sLt n b ∧ sLt a n = sLt b n := by
 have : a.toList = b.toList := by simpa [sEq] using h
 exact ⟨by unfold sLt; rw [this], by unfold sLt; rw [this]⟩
theorem b3I {n : Str} : ∀ (r : a0v) (i : Int), 0 ≤ i → srt r → (∃ k : Nat, k < r.length ∧ a0r (a1Y n) r i = i + (k : Int) ∧ a2n n r = k ∧ sEq (r.getD k default).1 n = true) ∨ (a0r (a1Y n) r i = -1 ∧ a5G n r = false)
 | [], i, _, _ => .inr ⟨rfl, rfl⟩
 | y :: ys, i, hi, hs => by
 by_cases he : sEq y.1 n = true
 ·refine .inl ⟨0, by simp, by rw [a0r, if_pos (show a1Y n y = true from he)]; simp, ?_, by simpa using he⟩
  rw [a2n, if_neg]
  rw [(b6o (n := n) he).2]
  simp [sLt, c0P]
 ·have hf : a0r (a1Y n) (y :: ys) i = a0r (a1Y n) ys (i + 1) := by rw [a0r, if_neg (show ¬ a1Y n y = true from he)]
  by_cases hl : sLt y.1 n = true
  ·rcases b3I ys (i + 1) (by omega) hs.2 with ⟨k, h1, h2, h3, h4⟩ | ⟨h1, h2⟩
  ·exact .inl ⟨k + 1, by simpa using h1, by rw [hf, h2]; omega, by rw [a2n, if_pos hl, h3], by simpa using h4⟩
  ·refine .inr ⟨by rw [hf, h1], ?_⟩
   unfold a5G at h2 ⊢
   rw [a2n, if_pos hl]
   simpa using h2
  ·refine .inr ⟨?_, ?_⟩
  ·rw [hf]
   rcases a9D (p := a1Y n) (d := default) ys (i + 1) (by omega) with ⟨h1, _⟩ | ⟨m, h1, _, _, h4⟩
   ·exact h1
   ·exfalso
   have hm : ys.getD m default ∈ ys := by simp [List.getD, List.getElem?_eq_getElem h1]
   have := hs.1 _ hm
   rw [(b6o (n := y.1) h4).1] at this
   exact hl this
  ·unfold a5G
   rw [a2n, if_neg hl]
   simp [he]
theorem b8d {r : a0v} {n : Str} {v : Int} (hr : a1b r = true) (h : 0 ≤ a0r (a1Y n) r 0) : a3A r (a0r (a1Y n) r 0).toNat v = a4u r n v := by
 rcases b3I (n := n) r 0 (by omega) (b2D r (b9P hr)) with ⟨k, h1, h2, h3, h4⟩ | ⟨h1, _⟩
 ·have hh : a5G n r = true := by unfold a5G; rw [h3, h4, decide_eq_true h1]; rfl
 rw [a4u, if_pos hh, h3, h2]
 congr 1; omega
 ·omega
theorem b7z {r : a0v} {n : Str} {v : Int} {j : Nat} (hr : a1b r = true) (h : ¬ 0 ≤ a0r (a1Y n) r 0) (hj : a2n n r = j) : a2u r j (n, v) = a4u r n v := by
 rcases b3I (n := n) r 0 (by omega) (b2D r (b9P hr)) with ⟨k, h1, h2, h3, h4⟩ | ⟨_, h1⟩
 ·omega
 ·rw [a4u, if_neg (by rw [h1]; simp), hj]
theorem c0l {r : a0v} {n : Str} {v : Int} {j : Nat} (hj : a2n n r = j) (h : (decide ((j : Int) < (r.length : Int)) && sEq (r.getD (j : Int).toNat default).1 n) = true) : a3A r j v = a4u r n v := by
 have hh : a5G n r = true := by
 rw [Bool.and_eq_true, decide_eq_true_eq, Int.toNat_natCast] at h
 unfold a5G; rw [hj, h.2, decide_eq_true (by omega)]; rfl
 rw [a4u, if_pos hh, hj]
theorem b5q {r : a0v} {n : Str} {v : Int} {j : Nat} (hj : a2n n r = j) (h : (decide ((j : Int) < (r.length : Int)) && sEq (r.getD (j : Int).toNat default).1 n) = false) : a2u r j (n, v) = a4u r n v := by
 have hh : a5G n r = false := by
 rw [Int.toNat_natCast] at h
 unfold a5G; rw [hj]
 by_cases hl : j < r.length
 ·rw [decide_eq_true (by omega : (j : Int) < (r.length : Int))] at h; rw [decide_eq_true hl]; exact h
 ·rw [decide_eq_false hl]; rfl
 rw [a4u, if_neg (by rw [hh]; simp), hj]
theorem c0w {n : Str} {l : a0v} {j : Nat} (hp : a2n n l = j + a2n n (l.drop j)) (h : (decide ((j : Int) < (l.length : Int)) && sLt (l.getD (j : Int).toNat default).1 n) = true) : j < l.length ∧ a2n n l = (j + 1) + a2n n (l.drop (j + 1)) := by
 obtain ⟨h1, h2⟩ := (Bool.and_eq_true _ _ ▸ h : _ ∧ _)
 have h1 := of_decide_eq_true h1
 rw [Int.toNat_natCast] at h2
 have h3 : j < l.length := by omega
 refine ⟨h3, ?_⟩
 rw [hp, b3j h3, a2n, if_pos h2]
 omega
theorem b6V {n : Str} {l : a0v} {j : Nat} (hj : j ≤ l.length) (hp : a2n n l = j + a2n n (l.drop j)) (h : (decide ((j : Int) < (l.length : Int)) && sLt (l.getD (j : Int).toNat default).1 n) = false) : a2n n l = j := by
 rcases Nat.lt_or_ge j l.length with h3 | h3
 ·rw [decide_eq_true (by omega : (j : Int) < (l.length : Int)), Bool.true_and, Int.toNat_natCast] at h
 rw [hp, b3j h3, a2n, if_neg (by rw [h]; simp)]
 omega
 ·rw [hp, List.drop_eq_nil_of_le h3, a2n]; omega
theorem b2B (l : a0v) : (l.flatMap a1B).length = l.length * 2 := a5a (enc := a1B) (sz := 2) (fun _ => rfl) l
theorem b4U {l : a0v} {i : Nat} {v : Int} : (a3A l i v).length = l.length := by simp [a3A]
theorem b5M {l : a0v} {i : Nat} {v : Int} (hi : i < l.length) : a1d (i * 2 + 1) [DV.int .i64 v] (l.flatMap a1B) = (a3A l i v).flatMap a1B := by
 have e : l.flatMap a1B = (l.take i).flatMap a1B ++ (a1B (l.getD i default) ++ (l.drop (i + 1)).flatMap a1B) := by
 rw [← List.flatMap_cons, ← b3j hi, ← List.flatMap_append, List.take_append_drop]
 have e2 : (a3A l i v).flatMap a1B = (l.take i).flatMap a1B ++ (a1B ((l.getD i default).1, v) ++ (l.drop (i + 1)).flatMap a1B) := by
 rw [a3A, List.set_eq_take_append_cons_drop, if_pos hi, List.flatMap_append, List.flatMap_cons]
 have hl : ((l.take i).flatMap a1B).length = i * 2 := by rw [b2B, List.length_take]; omega
 rw [e, e2]
 exact c0Q (pre := (l.take i).flatMap a1B) (B := a1B (l.getD i default)) (B' := a1B ((l.getD i default).1, v)) (post := (l.drop (i + 1)).flatMap a1B) (m := i * 2) (off := i * 2 + 1) (j := 1) hl rfl rfl (Nat.le_refl _)
theorem b6v {l : a0v} {j : Nat} {y : a4R} : (a2u l j y).length = l.length + 1 := by simp [a2u]; omega
theorem c6u {o : a0v} {j : Nat} {y : a4R} : a5r (o.flatMap a1B) ((j : Int).toNat * 2) (a1B y) = (a2u o j y).flatMap a1B := by
 obtain ⟨h1, h2⟩ := a7k (enc := a1B) (sz := 2) (fun _ => rfl) j o
 rw [Int.toNat_natCast, a5r, a2u, List.flatMap_append, List.flatMap_cons, h1, h2, List.append_assoc]
theorem b2g (r : a0v) (n : Str) (v : Int) : (a1G r n v).1.length ≤ r.length + 1 := by
 unfold a1G a4u
 repeat' split
 all_goals first | (show r.length ≤ _; omega) | (simp only [b4U, b6v]; omega)
theorem b1q {r : a0v} {n : Str} {v : Int} (hb : r.length ≤ 1099511627776) : KFn Tryz.prog 110 [.agg [(.dv [] (a0J (r)))], .one (.dv [] (.str (n))), .one (.dv [] (.int .i64 (v)))] (.tup [(true, [(.key 9001)]), (false, [(.dv [] (.bool ((a1G r n v).2)))])]) [(9001, some (a0b false (a0J ((a1G r n v).1))))] := by
 refine ⟨a0Q Tryz.func110 rfl Tryz.ntmps110 Tryz.results110 rfl (fun C => ?_)⟩
 refine yF 0 0 rfl rfl fun f0_0 => ?_
 refine a1k (x := .tmp 1) (a0a rfl) fun f1 => ?_
 refine a1k (x := .tmp 2) (a0a rfl) fun f2 => ?_
 iterate 7 refine z ?_
 refine zK 8998 Tryz.call117 ?_ (hf := a8z (x := r) (by omega))
 iterate 7 refine z ?_
 refine zC Tryz.call122 ?_ (hf := c0h (x := r) (n := n) )
 iterate 6 refine z ?_
 refine yQ rfl (fun c1 => ?_) fun c1 => ?_
 ·have d1 := of_decide_eq_true c1
 have hlt : (a0r (a1Y n) r 0).toNat < r.length := by have := a8u (p := a1Y n) r 0 (by omega); omega
 refine a0n ?_
 iterate 4 refine z ?_
 refine yO rfl rfl (a4U (i := (a0r (a1Y (n)) (r) 0).toNat) hT rfl rfl rfl (a0a rfl) rfl (a0a rfl) (by omega) (by show _ < ((r)).length; omega)) rfl ?_
 refine z ?_
 refine a8Q (js := []) (cs := (a3A r (a0r (a1Y n) r 0).toNat v).flatMap a1B) hT rfl rfl rfl rfl (a0a rfl) (a0a rfl) rfl rfl rfl rfl (a0o (a0R rfl) a1z rfl) (by decide) (by decide) rfl (by show _ ≤ List.length ((r).flatMap a1B); rw [b2B]; omega) (b5M (by omega)) ?_
 simp only [a0p, a0k, SV.kill, CV.kill, kk, Nat.reduceBEq]
 refine z ?_
 refine a0s ?_
 refine a0s ?_
 refine a0h (a4Z (k := 9001) (c' := a0b false (a0J (a3A r (a0r (a1Y n) r 0).toNat v))) rfl (congrArg (fun m => KC.mk false 135 2 m ((a3A r (a0r (a1Y n) r 0).toNat v).flatMap a1B)) b4U.symm) rfl) ?_
 refine a0n ?_
 refine z ?_
 refine zC Tryz.call81 ?_ (hf := a7i (r := r) )
 iterate 3 refine z ?_
 refine a1P (a1t rfl rfl rfl rfl rfl) rfl rfl Tryz.call81 (a7i (r := a3A r (a0r (a1Y n) r 0).toNat v) ) (fun hg => (a0g (a0z rfl hg) (a0u (a0d (a0X rfl rfl) a0t)) a0q)) rfl rfl ?_
 iterate 3 refine z ?_
 refine yQ rfl (fun c2 => ?_) fun c2 => ?_
 ·refine a0s ?_
  refine a0h (σ' := ⟨[(3, .box 3 0), (6, .box 6 0), (7, .one (.dv [] (.bool (false))))], [(3, 63, [(.dv [] (a0J (r)))]), (6, 63, [.nil])], []⟩) (a0e ⟨rfl, rfl, rfl, trivial⟩ ⟨rfl, rfl, trivial⟩ trivial rfl) ?_
  refine a0n ?_
  refine z ?_
  refine zK 8998 Tryz.call117 ?_ (hf := a8z (x := r) (by omega))
  iterate 3 refine z ?_
  rw [b1B (fun hr => b8d hr d1) c2]
  refine a0h (σ' := ⟨[(6, .box 6 0), (7, .one (.dv [] (.bool (false))))], [(6, 63, [(.key 9001)])], [(9001, some (a0b false (a0J (r))))]⟩) (a0e ⟨rfl, rfl, trivial⟩ ⟨rfl, trivial⟩ ⟨rfl, trivial⟩ rfl) ?_
  iterate 2 refine z ?_
  refine a1u (a0F hT rfl rfl rfl rfl) (a0m rfl) rfl rfl ?_
  first | exact ⟨rfl, rfl⟩ | skip
 ·iterate 7 refine z ?_
  rw [b1s (fun hr => b8d hr d1) c2]
  refine a0h (σ' := ⟨[(6, .box 6 0), (7, .one (.dv [] (.bool (true))))], [(6, 63, [(.key 9001)])], [(9001, some (a0b false (a0J (a3A r (a0r (a1Y n) r 0).toNat v))))]⟩) (a0e ⟨rfl, rfl, trivial⟩ ⟨rfl, trivial⟩ ⟨rfl, trivial⟩ rfl) ?_
  refine z ?_
  refine a1u (a0F hT rfl rfl rfl rfl) (a0m rfl) rfl rfl ?_
  first | exact ⟨rfl, rfl⟩ | skip
 ·have d1 := of_decide_eq_false c1
 iterate 5 refine z ?_
 refine a1l (ι := Nat) (fun zz => ⟨[(1, .one (.dv [] (.str (n)))), (2, .one (.dv [] (.int .i64 (v)))), (3, .box 3 0), (6, .box 6 0), (7, .one (.dv [] (.bool (false)))), (8, .box 8 0), (10, .one (.dv [] (.int .i64 ((zz : Int)))))], [(3, 63, [(.dv [] (a0J (r)))]), (6, 63, [.nil]), (8, 63, [(.key 9001)])], [(9001, some (a0b false (.sl 135 2 (r.length) (r.flatMap a1B))))]⟩) (fun zz => zz ≤ r.length ∧ a2n n r = zz + a2n n (r.drop zz)) (fun zz => r.length - zz) (0) ?_ (a0e ⟨rfl, rfl, rfl, rfl, rfl, rfl, rfl, trivial⟩ ⟨rfl, rfl, rfl, trivial⟩ ⟨rfl, trivial⟩ rfl) (fun zz hx => ?_)
 ·exact ⟨Nat.zero_le _, by simp⟩
 obtain ⟨j, rfl⟩ : ∃ v, v = zz := ⟨_, rfl⟩
 replace hx : j ≤ r.length ∧ a2n n r = j + a2n n (r.drop j) := hx
 obtain ⟨hj, hp⟩ := hx
 show Ok _ _ _ _ _ (⟨[(1, .one (.dv [] (.str (n)))), (2, .one (.dv [] (.int .i64 (v)))), (3, .box 3 0), (6, .box 6 0), (7, .one (.dv [] (.bool (false)))), (8, .box 8 0), (10, .one (.dv [] (.int .i64 ((j : Int)))))], [(3, 63, [(.dv [] (a0J (r)))]), (6, 63, [.nil]), (8, 63, [(.key 9001)])], [(9001, some (a0b false (.sl 135 2 (r.length) (r.flatMap a1B))))]⟩ : St)
 iterate 4 refine z ?_
 refine yO rfl rfl (b1k (dd := a0J r) (a4h hT rfl rfl (a0a rfl) rfl rfl) rfl rfl) rfl ?_
 iterate 4 refine z ?_
 refine b0E (a1t rfl rfl rfl rfl rfl) rfl (fun hg => b1k (dd := a0J r) (a4h hT rfl rfl (a0z rfl hg) rfl rfl) rfl rfl) rfl rfl ?_
 iterate 8 refine z ?_
 refine yQ rfl (fun c3 => ?_) fun c3 => ?_
 ·have hst := c0w hp c3
  have hst1 := hst.1
  iterate 3 refine z ?_
  refine a0n ?_
  iterate 3 refine z ?_
  refine a1J ?_
  iterate 2 refine z ?_
  refine ⟨j + 1, ?_, ?_, a0e ⟨rfl, rfl, rfl, rfl, rfl, rfl, rfl, trivial⟩ ⟨rfl, rfl, rfl, trivial⟩ ⟨rfl, trivial⟩ rfl⟩
  ·exact ⟨by omega, hst.2⟩
  ·omega
 ·have hpos := b6V hj hp c3
  iterate 5 refine z ?_
  refine a0n ?_
  iterate 5 refine z ?_
  refine yO rfl rfl (a1v hT hB rfl rfl rfl (a1c (a0a rfl) rfl rfl rfl rfl rfl (a1c (a0a rfl) rfl rfl rfl rfl rfl a1w))) rfl ?_
  refine a3D (k := 47) (js := []) hT rfl rfl rfl rfl rfl rfl rfl rfl rfl (a0a rfl) rfl rfl (a0o (a0R rfl) (a0o (a0R rfl) a1z rfl) rfl) (by decide) (by decide) rfl rfl ?_
  simp only [a0p, a0k, SV.kill, CV.kill, kk, Nat.reduceBEq]
  refine b3r (k := 9001) (j := 47) (cs := (a2u r j (n, v)).flatMap a1B) (n := (a2u r j (n, v)).length) (c8H rfl rfl (by decide)) rfl rfl Tryz.call128 rfl rfl (a0a rfl) rfl rfl rfl (a0a rfl) (by omega) (by dsimp only [a0b]; omega) (a0a rfl) rfl rfl rfl rfl (by decide) (by dsimp only [a0b]; omega) (by dsimp only [a0b]; omega) (by rw [b6v]) (c6u (o := r) (j := j) (y := (n, v))) ?_
  simp only [a0p, a0k, SV.kill, CV.kill, kk, Nat.reduceBEq]
  iterate 3 refine z ?_
  refine a0s ?_
  refine a0s ?_
  refine a0h (a4Z (k := 9001) (c' := a0b false (a0J (a2u r j (n, v)))) rfl (rfl) rfl) ?_
  refine a0n ?_
  refine z ?_
  refine zC Tryz.call81 ?_ (hf := a7i (r := r) )
  iterate 3 refine z ?_
  refine a1P (a1t rfl rfl rfl rfl rfl) rfl rfl Tryz.call81 (a7i (r := a2u r j (n, v)) ) (fun hg => (a0g (a0z rfl hg) (a0u (a0d (a0X rfl rfl) a0t)) a0q)) rfl rfl ?_
  iterate 3 refine z ?_
  refine yQ rfl (fun c4 => ?_) fun c4 => ?_
  ·refine a0s ?_
  refine a0h (σ' := ⟨[(3, .box 3 0), (6, .box 6 0), (7, .one (.dv [] (.bool (false))))], [(3, 63, [(.dv [] (a0J (r)))]), (6, 63, [.nil])], []⟩) (a0e ⟨rfl, rfl, rfl, trivial⟩ ⟨rfl, rfl, trivial⟩ trivial rfl) ?_
  refine a0n ?_
  refine z ?_
  refine zK 8998 Tryz.call117 ?_ (hf := a8z (x := r) (by omega))
  iterate 3 refine z ?_
  rw [b1B (fun hr => b7z hr d1 hpos) c4]
  refine a0h (σ' := ⟨[(6, .box 6 0), (7, .one (.dv [] (.bool (false))))], [(6, 63, [(.key 9001)])], [(9001, some (a0b false (a0J (r))))]⟩) (a0e ⟨rfl, rfl, trivial⟩ ⟨rfl, trivial⟩ ⟨rfl, trivial⟩ rfl) ?_
  iterate 2 refine z ?_
  refine a1u (a0F hT rfl rfl rfl rfl) (a0m rfl) rfl rfl ?_
  first | exact ⟨rfl, rfl⟩ | skip
  ·iterate 7 refine z ?_
  rw [b1s (fun hr => b7z hr d1 hpos) c4]
  refine a0h (σ' := ⟨[(6, .box 6 0), (7, .one (.dv [] (.bool (true))))], [(6, 63, [(.key 9001)])], [(9001, some (a0b false (a0J (a2u r j (n, v)))))]⟩) (a0e ⟨rfl, rfl, trivial⟩ ⟨rfl, trivial⟩ ⟨rfl, trivial⟩ rfl) ?_
  refine z ?_
  refine a1u (a0F hT rfl rfl rfl rfl) (a0m rfl) rfl rfl ?_
  first | exact ⟨rfl, rfl⟩ | skip
theorem b4p {r : a0v} {n : Str} {v : Int} (hb : r.length ≤ 1099511627776) : KFn Tryz.prog 97 [.agg [(.dv [] (a0J (r)))], .one (.dv [] (.str (n))), .one (.dv [] (.int .i64 (v)))] (.tup [(true, [(.key 9001)]), (false, [(.dv [] (.bool ((a1G r n v).2)))])]) [(9001, some (a0b false (a0J ((a1G r n v).1))))] := by
 refine ⟨a0Q Tryz.func97 rfl Tryz.ntmps97 Tryz.results97 rfl (fun C => ?_)⟩
 refine yF 0 0 rfl rfl fun f0_0 => ?_
 refine a1k (x := .tmp 1) (a0a rfl) fun f1 => ?_
 refine a1k (x := .tmp 2) (a0a rfl) fun f2 => ?_
 iterate 7 refine z ?_
 refine zK 8998 Tryz.call96 ?_ (hf := a7Y (x := r) (by omega))
 iterate 8 refine z ?_
 refine a1l (ι := Nat) (fun zz => ⟨[(1, .one (.dv [] (.str (n)))), (2, .one (.dv [] (.int .i64 (v)))), (3, .box 3 0), (6, .box 6 0), (7, .one (.dv [] (.bool (false)))), (8, .box 8 0), (9, .one (.dv [] (.int .i64 ((zz : Int)))))], [(3, 63, [(.dv [] (a0J (r)))]), (6, 63, [.nil]), (8, 63, [(.key 9001)])], [(9001, some (a0b false (.sl 135 2 (r.length) (r.flatMap a1B))))]⟩) (fun zz => zz ≤ r.length ∧ a2n n r = zz + a2n n (r.drop zz)) (fun zz => r.length - zz) (0) ?_ (a0e ⟨rfl, rfl, rfl, rfl, rfl, rfl, rfl, trivial⟩ ⟨rfl, rfl, rfl, trivial⟩ ⟨rfl, trivial⟩ rfl) (fun zz hx => ?_)
 ·exact ⟨Nat.zero_le _, by simp⟩
 obtain ⟨j, rfl⟩ : ∃ v, v = zz := ⟨_, rfl⟩
 replace hx : j ≤ r.length ∧ a2n n r = j + a2n n (r.drop j) := hx
 obtain ⟨hj, hp⟩ := hx
 show Ok _ _ _ _ _ (⟨[(1, .one (.dv [] (.str (n)))), (2, .one (.dv [] (.int .i64 (v)))), (3, .box 3 0), (6, .box 6 0), (7, .one (.dv [] (.bool (false)))), (8, .box 8 0), (9, .one (.dv [] (.int .i64 ((j : Int)))))], [(3, 63, [(.dv [] (a0J (r)))]), (6, 63, [.nil]), (8, 63, [(.key 9001)])], [(9001, some (a0b false (.sl 135 2 (r.length) (r.flatMap a1B))))]⟩ : St)
 iterate 18 refine z ?_
 refine yQ rfl (fun c1 => ?_) fun c1 => ?_
 ·have hst := c0w hp c1
 have hst1 := hst.1
 iterate 3 refine z ?_
 refine a0n ?_
 iterate 3 refine z ?_
 refine a1J ?_
 iterate 2 refine z ?_
 refine ⟨j + 1, ?_, ?_, a0e ⟨rfl, rfl, rfl, rfl, rfl, rfl, rfl, trivial⟩ ⟨rfl, rfl, rfl, trivial⟩ ⟨rfl, trivial⟩ rfl⟩
 ·exact ⟨by omega, hst.2⟩
 ·omega
 ·have hpos := b6V hj hp c1
 iterate 23 refine z ?_
 refine yQ rfl (fun c2 => ?_) fun c2 => ?_
 ·have hlt : j < r.length := by have h8 := c2; rw [Bool.and_eq_true, decide_eq_true_eq] at h8; omega
  refine a0n ?_
  iterate 4 refine z ?_
  refine yO rfl rfl (a4U (i := j) hT rfl rfl rfl (a0a rfl) rfl (a0a rfl) rfl (by show _ < (r.length); omega)) rfl ?_
  refine z ?_
  refine a8Q (js := []) (cs := (a3A r j v).flatMap a1B) hT rfl rfl rfl rfl (a0a rfl) (a0a rfl) rfl rfl rfl rfl (a0o (a0R rfl) a1z rfl) (by decide) (by decide) rfl (by show _ ≤ List.length (r.flatMap a1B); rw [b2B]; omega) (b5M (by omega)) ?_
  simp only [a0p, a0k, SV.kill, CV.kill, kk, Nat.reduceBEq]
  refine z ?_
  refine a0s ?_
  refine a0s ?_
  refine a0h (a4Z (k := 9001) (c' := a0b false (a0J (a3A r j v))) rfl (congrArg (fun m => KC.mk false 135 2 m ((a3A r j v).flatMap a1B)) b4U.symm) rfl) ?_
  refine a0n ?_
  refine z ?_
  refine zC Tryz.call86 ?_ (hf := a7j (r := r) )
  iterate 3 refine z ?_
  refine a1P (a1t rfl rfl rfl rfl rfl) rfl rfl Tryz.call86 (a7j (r := a3A r j v) ) (fun hg => (a0g (a0z rfl hg) (a0u (a0d (a0X rfl rfl) a0t)) a0q)) rfl rfl ?_
  iterate 3 refine z ?_
  refine yQ rfl (fun c3 => ?_) fun c3 => ?_
  ·refine a0s ?_
  refine a0h (σ' := ⟨[(3, .box 3 0), (6, .box 6 0), (7, .one (.dv [] (.bool (false))))], [(3, 63, [(.dv [] (a0J (r)))]), (6, 63, [.nil])], []⟩) (a0e ⟨rfl, rfl, rfl, trivial⟩ ⟨rfl, rfl, trivial⟩ trivial rfl) ?_
  refine a0n ?_
  refine z ?_
  refine zK 8998 Tryz.call96 ?_ (hf := a7Y (x := r) (by omega))
  iterate 3 refine z ?_
  rw [b1B (fun _ => c0l hpos c2) c3]
  refine a0h (σ' := ⟨[(6, .box 6 0), (7, .one (.dv [] (.bool (false))))], [(6, 63, [(.key 9001)])], [(9001, some (a0b false (a0J (r))))]⟩) (a0e ⟨rfl, rfl, trivial⟩ ⟨rfl, trivial⟩ ⟨rfl, trivial⟩ rfl) ?_
  iterate 2 refine z ?_
  refine a1u (a0F hT rfl rfl rfl rfl) (a0m rfl) rfl rfl ?_
  first | exact ⟨rfl, rfl⟩ | skip
  ·iterate 7 refine z ?_
  rw [b1s (fun _ => c0l hpos c2) c3]
  refine a0h (σ' := ⟨[(6, .box 6 0), (7, .one (.dv [] (.bool (true))))], [(6, 63, [(.key 9001)])], [(9001, some (a0b false (a0J (a3A r j v))))]⟩) (a0e ⟨rfl, rfl, trivial⟩ ⟨rfl, trivial⟩ ⟨rfl, trivial⟩ rfl) ?_
  refine z ?_
  refine a1u (a0F hT rfl rfl rfl rfl) (a0m rfl) rfl rfl ?_
  first | exact ⟨rfl, rfl⟩ | skip
 ·refine c7D (σ' := ⟨[(3, .box 3 0), (6, .box 6 0), (7, .one (.dv [] (.bool (false)))), (8, .box 8 0)], [(3, 63, [(.dv [] (a0J (r)))]), (6, 63, [.nil]), (8, 63, [(.key 9050)])], [(9001, some (a0b false (.sl 135 2 (r.length) (r.flatMap a1B)))), (9050, some (a0b false (.sl 135 2 ((a2u r j (n, v)).length) ((a2u r j (n, v)).flatMap a1B))))]⟩) ?_ ?_
  ·refine a5w [0, 1, 2, 3, 4, 5, 6, 7, 8, 9, 10, 11, 12, 13, 14, 15, 16] (oB := [3, 6, 8]) (oK := [9001]) (by kernel_rfl) rfl rfl ?_
  refine b3d ?_
  refine zN 1 ?_
  refine zN 2 ?_
  refine zN 3 ?_
  refine a5F 4 rfl (by kernel_rfl) rfl rfl (b2d hT rfl rfl rfl (a0a rfl) (a0a rfl) (fun _ => rfl) (by omega) (by omega)) rfl rfl rfl rfl ?_
  refine zN 6 ?_
  refine zN 7 ?_
  refine a5F 8 rfl (by kernel_rfl) rfl rfl (a1v hT hB rfl rfl rfl (a1c (a0a rfl) rfl rfl rfl rfl rfl (a1c (a0a rfl) rfl rfl rfl rfl rfl a1w))) rfl rfl rfl rfl ?_
  refine zN 11 ?_
  refine zN 12 ?_
  refine zN 13 ?_
  refine a5F 14 rfl (by kernel_rfl) rfl rfl (b4R hT rfl rfl rfl (a0a rfl) (a0a rfl) (fun _ => rfl) (by omega) (by omega)) rfl rfl rfl rfl ?_
  refine a2i 0 [9] (by kernel_rfl) ⟨?_, ?_, trivial⟩
  ·refine a8J (k := 9050) 0 hT rfl rfl rfl rfl rfl rfl rfl rfl rfl rfl rfl rfl ?_
   refine a2i 5 [9] (by kernel_rfl) ⟨?_, ?_, trivial⟩
   ·refine a4d (k := 9050) (cs := (r.take j).flatMap a1B) (n := (r.take j).length) 5 hT rfl rfl rfl rfl rfl rfl rfl rfl (a0a rfl) rfl rfl rfl (a0a rfl) (a3y (fun _ => rfl) _) (by dsimp only [a0b]; simp only [List.length_take]; omega) (by dsimp only [a0b]; simp only [List.length_take]; omega) (Nat.zero_add _) (rfl) rfl rfl ?_
   simp only [a0p, a0k, SV.kill, CV.kill, kk, Nat.reduceBEq]
   refine a2i 9 [] (by kernel_rfl) ⟨?_, trivial⟩
   ·refine b3P (k := 9059) (js := []) 9 hT rfl rfl rfl rfl rfl rfl rfl rfl rfl rfl rfl rfl (a0Y (a0a rfl) rfl rfl rfl a3a) (a0o (a0R rfl) (a0o (a0R rfl) a1z rfl) rfl) (by decide) (by decide) rfl rfl rfl rfl rfl ?_
    simp only [a0p, a0k, SV.kill, CV.kill, kk, Nat.reduceBEq]
    refine a2i 10 [] (by kernel_rfl) ⟨?_, trivial⟩
    ·refine a4d (k := 9050) (cs := ((r.take j) ++ [(n, v)]).flatMap a1B) (n := ((r.take j) ++ [(n, v)]).length) (m := 1) (ds := [.str (n), .int .i64 (v)]) 10 hT rfl rfl rfl rfl rfl rfl rfl rfl (a0a rfl) rfl rfl rfl (a2P (a0a rfl) rfl rfl) rfl (by dsimp only [a0b]; simp only [List.length_take]; omega) (by dsimp only [a0b]; simp only [List.length_take]; omega) (by simp) (by rw [List.flatMap_append]; rfl) rfl rfl ?_
    simp only [a0p, a0k, SV.kill, CV.kill, kk, Nat.reduceBEq]
    refine a2i 15 [] (by kernel_rfl) ⟨?_, trivial⟩
    ·refine a4d (k := 9050) (cs := (a2u r j (n, v)).flatMap a1B) (n := (a2u r j (n, v)).length) 15 hT rfl rfl rfl rfl rfl rfl rfl rfl (a0a rfl) rfl rfl rfl (a0a rfl) (a3y (fun _ => rfl) _) (by dsimp only [a0b]; simp only [List.length_append, List.length_take, List.length_drop, List.length_singleton]; omega) (by dsimp only [a0b]; simp only [List.length_append, List.length_take, List.length_drop, List.length_singleton]; omega) (by simp [a2u]; omega) (by rw [← List.flatMap_append, a2u, List.append_assoc]; rfl) rfl rfl ?_
     simp only [a0p, a0k, SV.kill, CV.kill, kk, Nat.reduceBEq]
     refine zN 16 ?_
     refine a2i 17 [] (by kernel_rfl) ⟨?_, trivial⟩
     ·refine a5V 17 rfl rfl (by kernel_rfl) (a4z hT rfl rfl rfl (a0a rfl) (a0a rfl) rfl rfl rfl rfl rfl rfl) (by kernel_rfl) ?_
     exact a2z (a0e ⟨rfl, rfl, rfl, rfl, trivial⟩ ⟨rfl, rfl, rfl, trivial⟩ ⟨rfl, rfl, trivial⟩ rfl)
   ·refine b3P (k := 9059) (js := []) 9 hT rfl rfl rfl rfl rfl rfl rfl rfl rfl rfl rfl rfl (a0Y (a0a rfl) rfl rfl rfl a3a) (a0o (a0R rfl) (a0o (a0R rfl) a1z rfl) rfl) (by decide) (by decide) rfl rfl rfl rfl rfl ?_
   simp only [a0p, a0k, SV.kill, CV.kill, kk, Nat.reduceBEq]
   refine a2i 5 [] (by kernel_rfl) ⟨?_, trivial⟩
   ·refine a4d (k := 9050) (cs := (r.take j).flatMap a1B) (n := (r.take j).length) 5 hT rfl rfl rfl rfl rfl rfl rfl rfl (a0a rfl) rfl rfl rfl (a0a rfl) (a3y (fun _ => rfl) _) (by dsimp only [a0b]; simp only [List.length_take]; omega) (by dsimp only [a0b]; simp only [List.length_take]; omega) (Nat.zero_add _) (rfl) rfl rfl ?_
    simp only [a0p, a0k, SV.kill, CV.kill, kk, Nat.reduceBEq]
    refine a2i 10 [] (by kernel_rfl) ⟨?_, trivial⟩
    ·refine a4d (k := 9050) (cs := ((r.take j) ++ [(n, v)]).flatMap a1B) (n := ((r.take j) ++ [(n, v)]).length) (m := 1) (ds := [.str (n), .int .i64 (v)]) 10 hT rfl rfl rfl rfl rfl rfl rfl rfl (a0a rfl) rfl rfl rfl (a2P (a0a rfl) rfl rfl) rfl (by dsimp only [a0b]; simp only [List.length_take]; omega) (by dsimp only [a0b]; simp only [List.length_take]; omega) (by simp) (by rw [List.flatMap_append]; rfl) rfl rfl ?_
    simp only [a0p, a0k, SV.kill, CV.kill, kk, Nat.reduceBEq]
    refine a2i 15 [] (by kernel_rfl) ⟨?_, trivial⟩
    ·refine a4d (k := 9050) (cs := (a2u r j (n, v)).flatMap a1B) (n := (a2u r j (n, v)).length) 15 hT rfl rfl rfl rfl rfl rfl rfl rfl (a0a rfl) rfl rfl rfl (a0a rfl) (a3y (fun _ => rfl) _) (by dsimp only [a0b]; simp only [List.length_append, List.length_take, List.length_drop, List.length_singleton]; omega) (by dsimp only [a0b]; simp only [List.length_append, List.length_take, List.length_drop, List.length_singleton]; omega) (by simp [a2u]; omega) (by rw [← List.flatMap_append, a2u, List.append_assoc]; rfl) rfl rfl ?_
     simp only [a0p, a0k, SV.kill, CV.kill, kk, Nat.reduceBEq]
     refine zN 16 ?_
     refine a2i 17 [] (by kernel_rfl) ⟨?_, trivial⟩
     ·refine a5V 17 rfl rfl (by kernel_rfl) (a4z hT rfl rfl rfl (a0a rfl) (a0a rfl) rfl rfl rfl rfl rfl rfl) (by kernel_rfl) ?_
     exact a2z (a0e ⟨rfl, rfl, rfl, rfl, trivial⟩ ⟨rfl, rfl, rfl, trivial⟩ ⟨rfl, rfl, trivial⟩ rfl)
  ·refine b3P (k := 9059) (js := []) 9 hT rfl rfl rfl rfl rfl rfl rfl rfl rfl rfl rfl rfl (a0Y (a0a rfl) rfl rfl rfl a3a) (a0o (a0R rfl) (a0o (a0R rfl) a1z rfl) rfl) (by decide) (by decide) rfl rfl rfl rfl rfl ?_
   simp only [a0p, a0k, SV.kill, CV.kill, kk, Nat.reduceBEq]
   refine a2i 0 [] (by kernel_rfl) ⟨?_, trivial⟩
   ·refine a8J (k := 9050) 0 hT rfl rfl rfl rfl rfl rfl rfl rfl rfl rfl rfl rfl ?_
   refine a2i 5 [] (by kernel_rfl) ⟨?_, trivial⟩
   ·refine a4d (k := 9050) (cs := (r.take j).flatMap a1B) (n := (r.take j).length) 5 hT rfl rfl rfl rfl rfl rfl rfl rfl (a0a rfl) rfl rfl rfl (a0a rfl) (a3y (fun _ => rfl) _) (by dsimp only [a0b]; simp only [List.length_take]; omega) (by dsimp only [a0b]; simp only [List.length_take]; omega) (Nat.zero_add _) (rfl) rfl rfl ?_
    simp only [a0p, a0k, SV.kill, CV.kill, kk, Nat.reduceBEq]
    refine a2i 10 [] (by kernel_rfl) ⟨?_, trivial⟩
    ·refine a4d (k := 9050) (cs := ((r.take j) ++ [(n, v)]).flatMap a1B) (n := ((r.take j) ++ [(n, v)]).length) (m := 1) (ds := [.str (n), .int .i64 (v)]) 10 hT rfl rfl rfl rfl rfl rfl rfl rfl (a0a rfl) rfl rfl rfl (a2P (a0a rfl) rfl rfl) rfl (by dsimp only [a0b]; simp only [List.length_take]; omega) (by dsimp only [a0b]; simp only [List.length_take]; omega) (by simp) (by rw [List.flatMap_append]; rfl) rfl rfl ?_
    simp only [a0p, a0k, SV.kill, CV.kill, kk, Nat.reduceBEq]
    refine a2i 15 [] (by kernel_rfl) ⟨?_, trivial⟩
    ·refine a4d (k := 9050) (cs := (a2u r j (n, v)).flatMap a1B) (n := (a2u r j (n, v)).length) 15 hT rfl rfl rfl rfl rfl rfl rfl rfl (a0a rfl) rfl rfl rfl (a0a rfl) (a3y (fun _ => rfl) _) (by dsimp only [a0b]; simp only [List.length_append, List.length_take, List.length_drop, List.length_singleton]; omega) (by dsimp only [a0b]; simp only [List.length_append, List.length_take, List.length_drop, List.length_singleton]; omega) (by simp [a2u]; omega) (by rw [← List.flatMap_append, a2u, List.append_assoc]; rfl) rfl rfl ?_
     simp only [a0p, a0k, SV.kill, CV.kill, kk, Nat.reduceBEq]
     refine zN 16 ?_
     refine a2i 17 [] (by kernel_rfl) ⟨?_, trivial⟩
     ·refine a5V 17 rfl rfl (by kernel_rfl) (a4z hT rfl rfl rfl (a0a rfl) (a0a rfl) rfl rfl rfl rfl rfl rfl) (by kernel_rfl) ?_
     exact a2z (a0e ⟨rfl, rfl, rfl, rfl, trivial⟩ ⟨rfl, rfl, rfl, trivial⟩ ⟨rfl, rfl, trivial⟩ rfl)
  refine a0s ?_
  refine a0s ?_
  refine a0h (a2R (b := 8) (i := 0) (k := 9050) (k' := 9001) rfl rfl rfl rfl (by decide) rfl rfl) ?_
  simp only [a0p, a0k, SV.kill, CV.kill, kk, Nat.reduceBEq]
  refine a0h (a4Z (k := 9001) (c' := a0b false (a0J (a2u r j (n, v)))) rfl (rfl) rfl) ?_
  refine a0n ?_
  refine z ?_
  refine zC Tryz.call86 ?_ (hf := a7j (r := r) )
  iterate 3 refine z ?_
  refine a1P (a1t rfl rfl rfl rfl rfl) rfl rfl Tryz.call86 (a7j (r := a2u r j (n, v)) ) (fun hg => (a0g (a0z rfl hg) (a0u (a0d (a0X rfl rfl) a0t)) a0q)) rfl rfl ?_
  iterate 3 refine z ?_
  refine yQ rfl (fun c4 => ?_) fun c4 => ?_
  ·refine a0s ?_
  refine a0h (σ' := ⟨[(3, .box 3 0), (6, .box 6 0), (7, .one (.dv [] (.bool (false))))], [(3, 63, [(.dv [] (a0J (r)))]), (6, 63, [.nil])], []⟩) (a0e ⟨rfl, rfl, rfl, trivial⟩ ⟨rfl, rfl, trivial⟩ trivial rfl) ?_
  refine a0n ?_
  refine z ?_
  refine zK 8998 Tryz.call96 ?_ (hf := a7Y (x := r) (by omega))
  iterate 3 refine z ?_
  rw [b1B (fun _ => b5q hpos c2) c4]
  refine a0h (σ' := ⟨[(6, .box 6 0), (7, .one (.dv [] (.bool (false))))], [(6, 63, [(.key 9001)])], [(9001, some (a0b false (a0J (r))))]⟩) (a0e ⟨rfl, rfl, trivial⟩ ⟨rfl, trivial⟩ ⟨rfl, trivial⟩ rfl) ?_
  iterate 2 refine z ?_
  refine a1u (a0F hT rfl rfl rfl rfl) (a0m rfl) rfl rfl ?_
  first | exact ⟨rfl, rfl⟩ | skip
  ·iterate 7 refine z ?_
  rw [b1s (fun _ => b5q hpos c2) c4]
  refine a0h (σ' := ⟨[(6, .box 6 0), (7, .one (.dv [] (.bool (true))))], [(6, 63, [(.key 9001)])], [(9001, some (a0b false (a0J (a2u r j (n, v)))))]⟩) (a0e ⟨rfl, rfl, trivial⟩ ⟨rfl, trivial⟩ ⟨rfl, trivial⟩ rfl) ?_
  refine z ?_
  refine a1u (a0F hT rfl rfl rfl rfl) (a0m rfl) rfl rfl ?_
  first | exact ⟨rfl, rfl⟩ | skip
def a3G (x : a0G) (k : a0L) : a0v := if 0 ≤ a0T x k then (x.2.1.getD (a0T x k).toNat default).2 else []
def a4j (r : a0v) (f : Str) : a0v × Bool := a1G r f ((a1a r f).1 + 1)
def rgK (k : a0L) : a3L := (true, true, k, k)
def rg0 : a3L := (false, false, (0, 0, ByteArray.empty), (0, 0, ByteArray.empty))
def a8i (x : a0G) (k : a0L) : Int := if a0T x k < 0 then -1 else ((x.2.1.getD (a0T x k).toNat default).2.length : Int)
def opI (x : a0G) (o : OpT) : a0G × Int × Bool :=
 if o.1 = 1 then ((a0O x o.2.2.1 o.2.2.2.1).1, 1, (a0O x o.2.2.1 o.2.2.2.1).2)
 else if o.1 = 2 then ((a2G x o.2.2.1 o.2.2.2.1).1, 1, (a2G x o.2.2.1 o.2.2.2.1).2)
 else if o.1 = 3 then ((a1L x (rgK o.2.2.1)).1, (a1L x (rgK o.2.2.1)).2, true)
 else if o.1 = 5 then ((a1L x rg0).1, (a1L x rg0).2, true)
 else if o.1 = 4 then (x, a8i x o.2.2.1, true)
 else if (a4j (a3G x o.2.2.1) o.2.2.2.2).2 = false then (x, 0, false)
 else ((a0O x o.2.2.1 (a4j (a3G x o.2.2.1) o.2.2.2.2).1).1, (a1a (a3G x o.2.2.1) o.2.2.2.2).1 + 1, (a0O x o.2.2.1 (a4j (a3G x o.2.2.1) o.2.2.2.2).1).2)
def a3B (x : a0G) (k : a0L) (f : Str) : a0G × Int × Bool := ((a0O x k (a4j (a3G x k) f).1).1, (a1a (a3G x k) f).1 + 1, (a4j (a3G x k) f).2 && (a0O x k (a4j (a3G x k) f).1).2)
def opM (x : a0G) (o : OpT) : a0G × Int × Bool :=
 if o.1 = 1 then ((a0O x o.2.2.1 o.2.2.2.1).1, 1, (a0O x o.2.2.1 o.2.2.2.1).2)
 else if o.1 = 2 then ((a2G x o.2.2.1 o.2.2.2.1).1, 1, (a2G x o.2.2.1 o.2.2.2.1).2)
 else if o.1 = 3 then ((a1L x (rgK o.2.2.1)).1, (a1L x (rgK o.2.2.1)).2, true)
 else if o.1 = 4 then (x, a8i x o.2.2.1, true)
 else if o.1 = 5 then ((a1L x rg0).1, (a1L x rg0).2, true)
 else a3B x o.2.2.1 o.2.2.2.2
theorem b1N (x : a0G) (o : OpT) : opI x o = opM x o ∨ ((opI x o).2.2 = false ∧ (opM x o).2.2 = false) := by
 unfold opI opM
 by_cases h1 : o.1 = 1
 ·simp [h1]
 ·by_cases h2 : o.1 = 2
 ·simp [h2]
 ·by_cases h3 : o.1 = 3
  ·simp [h3]
  ·by_cases h5 : o.1 = 5
  ·simp [h5]
  ·by_cases h4 : o.1 = 4
   ·simp [h4]
   ·rw [if_neg h1, if_neg h2, if_neg h3, if_neg h5, if_neg h4, if_neg h1, if_neg h2, if_neg h3, if_neg h4, if_neg h5]
   by_cases h : (a4j (a3G x o.2.2.1) o.2.2.2.2).2 = false
   ·right; rw [if_pos h]; simp [a3B, h]
   ·left; rw [if_neg h]
    have h' : (a4j (a3G x o.2.2.1) o.2.2.2.2).2 = true := by simpa using h
    simp [a3B, h']
def same (x : a0G) (o : OpT) : Bool := decide (o.1 = 4) || (!decide (o.1 = 1) && !decide (o.1 = 2) && !decide (o.1 = 3) && !decide (o.1 = 5) && !(a4j (a3G x o.2.2.1) o.2.2.2.2).2)
section
variable {x : a0G} {o : OpT}
theorem c3Y (h : o.1 = 1) : opI x o = ((a0O x o.2.2.1 o.2.2.2.1).1, 1, (a0O x o.2.2.1 o.2.2.2.1).2) := by rw [opI, if_pos h]
theorem c7g (h : o.1 = 2) : opI x o = ((a2G x o.2.2.1 o.2.2.2.1).1, 1, (a2G x o.2.2.1 o.2.2.2.1).2) := by rw [opI, if_neg (by omega), if_pos h]
theorem c2A (h : o.1 = 3) : opI x o = ((a1L x (rgK o.2.2.1)).1, (a1L x (rgK o.2.2.1)).2, true) := by rw [opI, if_neg (by omega), if_neg (by omega), if_pos h]
theorem c7i (h : o.1 = 5) : opI x o = ((a1L x rg0).1, (a1L x rg0).2, true) := by rw [opI, if_neg (by omega), if_neg (by omega), if_neg (by omega), if_pos h]
theorem c6w (h : o.1 = 4) (h2 : a0T x o.2.2.1 < 0) : opI x o = (x, -1, true) := by rw [opI, if_neg (by omega), if_neg (by omega), if_neg (by omega), if_neg (by omega), if_pos h, a8i, if_pos h2]
theorem c8b (h : o.1 = 4) (h2 : ¬ a0T x o.2.2.1 < 0) : opI x o = (x, ((x.2.1.getD (a0T x o.2.2.1).toNat default).2.length : Int), true) := by rw [opI, if_neg (by omega), if_neg (by omega), if_neg (by omega), if_neg (by omega), if_pos h, a8i, if_neg h2]
theorem b4g {k : a0L} (h : 0 ≤ a0T x k) : a3G x k = (x.2.1.getD (a0T x k).toNat default).2 := if_pos h
theorem b3g {k : a0L} (h : ¬ 0 ≤ a0T x k) : a3G x k = [] := if_neg h
theorem b9T {r : a0v} (h1 : o.1 ≠ 1) (h2 : o.1 ≠ 2) (h3 : o.1 ≠ 3) (h5 : o.1 ≠ 5) (h4 : o.1 ≠ 4) (hr : a3G x o.2.2.1 = r) (hk : (!(a1G r o.2.2.2.2 ((a1a r o.2.2.2.2).1 + 1)).2) = true) : opI x o = (x, 0, false) := by
 rw [opI, if_neg h1, if_neg h2, if_neg h3, if_neg h5, if_neg h4, hr, if_pos (by simpa [a4j] using hk)]
theorem b6n {r : a0v} (h1 : o.1 ≠ 1) (h2 : o.1 ≠ 2) (h3 : o.1 ≠ 3) (h5 : o.1 ≠ 5) (h4 : o.1 ≠ 4) (hr : a3G x o.2.2.1 = r) (hk : (!(a1G r o.2.2.2.2 ((a1a r o.2.2.2.2).1 + 1)).2) = false) :
 opI x o = ((a0O x o.2.2.1 (a1G r o.2.2.2.2 ((a1a r o.2.2.2.2).1 + 1)).1).1, (a1a r o.2.2.2.2).1 + 1, (a0O x o.2.2.1 (a1G r o.2.2.2.2 ((a1a r o.2.2.2.2).1 + 1)).1).2) := by
 rw [opI, if_neg h1, if_neg h2, if_neg h3, if_neg h5, if_neg h4, hr, if_neg (by simpa [a4j] using hk)]
 rfl
theorem b4D {r : a0v} (h : same x o = true) (h4 : o.1 ≠ 4) (hr : a3G x o.2.2.1 = r) : ¬ (!(a1G r o.2.2.2.2 ((a1a r o.2.2.2.2).1 + 1)).2) = false := by
 unfold same at h
 rw [hr] at h
 intro hk
 simp only [decide_eq_false h4, Bool.false_or, Bool.and_eq_true] at h
 have := h.2
 unfold a4j at this
 rw [hk] at this
 cases this
theorem a6r (h : same x o = true) (h4 : o.1 = 1 ∨ o.1 = 2 ∨ o.1 = 3 ∨ o.1 = 5) : False := by
 unfold same at h
 rw [decide_eq_false (show ¬ o.1 = 4 by omega)] at h
 simp only [Bool.false_or, Bool.and_eq_true, Bool.not_eq_true', decide_eq_false_iff_not] at h
 omega
theorem c6M (h : same x o = false) : o.1 ≠ 4 := by
 intro h4
 simp [same, h4] at h
theorem b8B {r : a0v} (h : same x o = false) (h1 : o.1 ≠ 1) (h2 : o.1 ≠ 2) (h3 : o.1 ≠ 3) (h5 : o.1 ≠ 5) (hr : a3G x o.2.2.1 = r) : ¬ (!(a1G r o.2.2.2.2 ((a1a r o.2.2.2.2).1 + 1)).2) = true := by
 unfold same at h
 rw [hr] at h
 intro hk
 simp only [decide_eq_false h1, decide_eq_false h2, decide_eq_false h3, decide_eq_false h5, Bool.not_false, Bool.true_and, Bool.or_eq_false_iff] at h
 have := h.2
 unfold a4j at this
 rw [hk] at this
 cases this
end
theorem a8T {r : a0v} {n : Str} (h : a1b r = true) : 0 ≤ (a1a r n).1 ∧ (a1a r n).1 ≤ 1000000000 := by
 unfold a1a
 split
 ·exact ⟨by simp, by simp⟩
 ·rename_i h1
 have hlt := a8u (p := a1Y n) r 0 (by omega)
 rw [a1b, Bool.and_eq_true, List.all_eq_true] at h
 have := h.1 (a0r (a1Y n) r 0).toNat (List.mem_range.2 (by omega))
 simp only [a4N, Bool.not_eq_true', Bool.or_eq_false_iff, Int.toNat_natCast] at this
 have h2 := this.1.2
 simp only [Bool.not_eq_false', Bool.and_eq_true, decide_eq_true_eq] at h2
 exact h2
theorem a7n {r : a0v} (h : a1b r = true) : r.length ≤ 6 := by
 rw [a1b, Bool.and_eq_true, decide_eq_true_eq] at h
 omega
theorem c3X {x : a0G} {i : Nat} (h : a1i x = true) (hi : i < x.2.1.length) : a1b (x.2.1.getD i default).2 = true := by
 rw [a1i, Bool.and_eq_true, List.all_eq_true] at h
 have := h.1 i (List.mem_range.2 hi)
 simp only [a4o, Bool.not_eq_true', Bool.or_eq_false_iff, Int.toNat_natCast] at this
 simpa using this.1.2
theorem b2w {o : OpT} (h : a1s o = true) : o.2.2.2.1.length ≤ 6 := by
 unfold a1s at h
 simp only [Bool.and_eq_true] at h
 exact a7n h.1.2
theorem b2C {x : a0G} {k : a0L} (h : a1i x = true) (h0 : 0 ≤ a0T x k) : a1b (x.2.1.getD (a0T x k).toNat default).2 = true := c3X h (by have := a5d h0; omega)
theorem c2u {x : a0G} {o : OpT} (hs : a1i x = true) (ho : a1s o = true) (hal : same x o = true) : PFn Tryz.prog 79 [.agg [(.dv [] (.str (x.1))), (.arg 0 (a0x (x.2.1))), (.dv [] (.int .i64 (x.2.2)))], .agg [(.dv [] (.int .i64 (o.1))), (.dv [] (.str (o.2.1))), (.dv [] (.int .i64 (o.2.2.1.1))), (.dv [] (.int .i64 (o.2.2.1.2.1))), (.dv [] (.str (o.2.2.1.2.2))), (.dv [] (a0J (o.2.2.2.1))), (.dv [] (.str (o.2.2.2.2)))]] (.tup [(true, [(.dv [] (.str (x.1))), (.arg 0 (a0x (x.2.1))), (.dv [] (.int .i64 (x.2.2)))]), (false, [(.dv [] (.int .i64 ((opI x o).2.1)))]), (false, [(.dv [] (.bool ((opI x o).2.2)))])]) := by
 refine ⟨a0Q Tryz.func79 rfl Tryz.ntmps79 Tryz.results79 rfl (fun C => ?_)⟩
 have hsw := a6C hs
 have hor := b2w ho
 refine yF 0 0 rfl rfl fun f0_0 => ?_
 refine yF 0 2 rfl rfl fun f0_2 => ?_
 refine yF 1 0 rfl rfl fun f1_0 => ?_
 refine yF 1 1 rfl rfl fun f1_1 => ?_
 refine yF 1 2 rfl rfl fun f1_2 => ?_
 refine yF 1 3 rfl rfl fun f1_3 => ?_
 refine yF 1 4 rfl rfl fun f1_4 => ?_
 refine yF 1 5 rfl rfl fun f1_5 => ?_
 refine yF 1 6 rfl rfl fun f1_6 => ?_
 iterate 11 refine z ?_
 refine zC Tryz.call106 ?_ (hf := b2e (x := x) (k := o.2.2.1) )
 iterate 12 refine z ?_
 refine yQ rfl (fun c1 => ?_) fun c1 => ?_
 ·have d1 := of_decide_eq_true c1
 exact absurd d1 (fun h => a6r hal (by omega))
 ·have d1 := of_decide_eq_false c1
 iterate 4 refine z ?_
 refine yQ rfl (fun c2 => ?_) fun c2 => ?_
 ·have d2 := of_decide_eq_true c2
  exact absurd d2 (fun h => a6r hal (by omega))
 ·have d2 := of_decide_eq_false c2
  iterate 4 refine z ?_
  refine yQ rfl (fun c3 => ?_) fun c3 => ?_
  ·have d3 := of_decide_eq_true c3
  exact absurd d3 (fun h => a6r hal (by omega))
  ·have d3 := of_decide_eq_false c3
  iterate 4 refine z ?_
  refine yQ rfl (fun c4 => ?_) fun c4 => ?_
  ·have d4 := of_decide_eq_true c4
   exact absurd d4 (fun h => a6r hal (by omega))
  ·have d4 := of_decide_eq_false c4
   iterate 4 refine z ?_
   refine yQ rfl (fun c5 => ?_) fun c5 => ?_
   ·have d5 := of_decide_eq_true c5
   iterate 5 refine z ?_
   refine yQ rfl (fun c6 => ?_) fun c6 => ?_
   ·have d6 := of_decide_eq_true c6
    iterate 10 refine z ?_
    refine a1U (a0F hT rfl rfl rfl rfl) (a0m rfl) (a0m rfl) rfl rfl rfl ?_
    rw [c6w d5 d6]
    rfl
   ·have d6 := of_decide_eq_false c6
    have hfx : a0T x o.2.2.1 < x.2.1.length := by have := a5d (x := x) (k := o.2.2.1) (by omega); omega
    iterate 2 refine z ?_
    refine a0s ?_
    refine a9I 4 (oB := [2, 3]) (oK := []) (by kernel_rfl) rfl rfl ?_
    refine a1I 0 rfl (by kernel_rfl) rfl rfl (a4C hT rfl rfl (a0a rfl) rfl rfl) rfl rfl rfl rfl rfl ?_
    refine a1I 1 rfl (by kernel_rfl) rfl rfl (a5B hT rfl rfl rfl (a0a rfl)) rfl rfl rfl rfl rfl ?_
    refine a1I 2 rfl (by kernel_rfl) rfl rfl (a4h hT rfl rfl (a0a rfl) rfl rfl) rfl rfl rfl rfl rfl ?_
    refine a1I 3 rfl (by kernel_rfl) rfl rfl (a0N (.inl rfl) (a0a rfl)) rfl rfl rfl rfl rfl ?_
    refine a1I 4 rfl (by kernel_rfl) rfl rfl (a5f hT rfl rfl rfl (a7w (a0a rfl)) (a0a rfl) (fun _ => rfl) (by omega) (by omega)) rfl rfl rfl rfl rfl ?_
    refine a1I 5 rfl (by kernel_rfl) rfl rfl (a6b hT rfl rfl rfl (a0a rfl)) rfl rfl rfl rfl rfl ?_
    refine a1I 6 rfl (by kernel_rfl) rfl rfl (a6b hT rfl rfl rfl (a0a rfl)) rfl rfl rfl rfl rfl ?_
    refine a1I 7 rfl (by kernel_rfl) rfl rfl (b3E hT rfl rfl (a0a rfl) rfl) rfl rfl rfl rfl rfl ?_
    refine a1I 8 rfl (by kernel_rfl) rfl rfl (a6E hT rfl rfl (a0a rfl)) rfl rfl rfl rfl rfl ?_
    refine a9f 9 rfl (by kernel_rfl) rfl hT rfl rfl rfl (a0a rfl) (a0a rfl) rfl rfl rfl rfl rfl rfl ?_
    refine a9x [10, 11] rfl rfl (by kernel_rfl) ?_
    iterate 6 refine z ?_
    refine a1U (a0F hT rfl rfl rfl rfl) (a0m rfl) (a0m rfl) rfl rfl rfl ?_
    rw [c8b d5 d6]
    rfl
   ·have d5 := of_decide_eq_false c5
   iterate 4 refine z ?_
   refine yO rfl rfl (a1v hT hB rfl rfl rfl a1w) rfl ?_
   iterate 8 refine z ?_
   refine yQ rfl (fun c7 => ?_) fun c7 => ?_
   ·have d7 := of_decide_eq_true c7
    have hb9 := b2C hs d7
    have hgb := a8T (n := o.2.2.2.2) hb9
    have hrl := a7n hb9
    have hrq := b4g d7
    have hlt9 := a5d d7
    refine a0n ?_
    iterate 3 refine z ?_
    refine yO rfl rfl (a5f hT rfl rfl rfl (a7w (a0a rfl)) (a0a rfl) (fun _ => rfl) (by omega) (by omega)) rfl ?_
    iterate 8 refine z ?_
    refine zC Tryz.call105 ?_ (hf := a5Q (x := ((x.2.1.getD (a0T x o.2.2.1).toNat default).2)) (n := o.2.2.2.2))
    iterate 12 refine z ?_
    refine zK 499 Tryz.call110 ?_ (hf := b1q (r := ((x.2.1.getD (a0T x o.2.2.1).toNat default).2)) (n := o.2.2.2.2) (v := (a1a ((x.2.1.getD (a0T x o.2.2.1).toNat default).2) o.2.2.2.2).1 + 1) (by omega))
    iterate 11 refine z ?_
    refine yQ rfl (fun c8 => ?_) fun c8 => ?_
    ·iterate 8 refine z ?_
    refine a1U (a0F hT rfl rfl rfl rfl) (a0m rfl) (a0m rfl) rfl rfl rfl ?_
    rw [b9T d1 d2 d3 d4 d5 hrq c8]
    rfl
    ·exact absurd c8 (b4D hal d5 hrq)
   ·have d7 := of_decide_eq_false c7
    have hb9 : a1b [] = true := rfl
    have hgb := a8T (n := o.2.2.2.2) hb9
    have hrl := a7n hb9
    have hrq := b3g d7
    iterate 6 refine z ?_
    refine a3S rfl rfl rfl Tryz.call105 (a5Q (x := ([] : a0v)) (n := o.2.2.2.2)) (a0g (a0a rfl) (a0u (a0d (a5o rfl rfl) a0t)) (a0g (a0a rfl) (a0D a0c) a0q)) rfl rfl ?_
    iterate 12 refine z ?_
    refine a2I 499 rfl rfl rfl Tryz.call110 (b1q (r := ([] : a0v)) (n := o.2.2.2.2) (v := (a1a ([] : a0v) o.2.2.2.2).1 + 1) (by omega)) (a0g (a0a rfl) (a0u (a0d (a5o rfl rfl) a0t)) (a0g (a0a rfl) (a0D a0c) (a0g (a0a rfl) (a0D a0c) a0q))) rfl rfl rfl ?_
    iterate 11 refine z ?_
    refine yQ rfl (fun c9 => ?_) fun c9 => ?_
    ·iterate 8 refine z ?_
    refine a1U (a0F hT rfl rfl rfl rfl) (a0m rfl) (a0m rfl) rfl rfl rfl ?_
    rw [b9T d1 d2 d3 d4 d5 hrq c9]
    rfl
    ·exact absurd c9 (b4D hal d5 hrq)
theorem c4s {x : a0G} {o : OpT} (hs : a1i x = true) (ho : a1s o = true) (hal : same x o = false) : KFn Tryz.prog 79 [.agg [(.dv [] (.str (x.1))), (.dv [] (a0x (x.2.1))), (.dv [] (.int .i64 (x.2.2)))], .agg [(.dv [] (.int .i64 (o.1))), (.dv [] (.str (o.2.1))), (.dv [] (.int .i64 (o.2.2.1.1))), (.dv [] (.int .i64 (o.2.2.1.2.1))), (.dv [] (.str (o.2.2.1.2.2))), (.dv [] (a0J (o.2.2.2.1))), (.dv [] (.str (o.2.2.2.2)))]] (.tup [(true, [(.dv [] (.str ((opI x o).1.1))), (.key 9001), (.dv [] (.int .i64 ((opI x o).1.2.2)))]), (false, [(.dv [] (.int .i64 ((opI x o).2.1)))]), (false, [(.dv [] (.bool ((opI x o).2.2)))])]) [(9001, some (a0b false (a0x ((opI x o).1.2.1))))] := by
 refine ⟨a0Q Tryz.func79 rfl Tryz.ntmps79 Tryz.results79 rfl (fun C => ?_)⟩
 have hsw := a6C hs
 have hor := b2w ho
 refine yF 0 0 rfl rfl fun f0_0 => ?_
 refine yF 0 1 rfl rfl fun f0_1 => ?_
 refine yF 0 2 rfl rfl fun f0_2 => ?_
 refine yF 1 0 rfl rfl fun f1_0 => ?_
 refine yF 1 1 rfl rfl fun f1_1 => ?_
 refine yF 1 2 rfl rfl fun f1_2 => ?_
 refine yF 1 3 rfl rfl fun f1_3 => ?_
 refine yF 1 4 rfl rfl fun f1_4 => ?_
 refine yF 1 5 rfl rfl fun f1_5 => ?_
 refine yF 1 6 rfl rfl fun f1_6 => ?_
 iterate 11 refine z ?_
 refine zC Tryz.call106 ?_ (hf := b2e (x := x) (k := o.2.2.1) )
 iterate 12 refine z ?_
 refine yQ rfl (fun c1 => ?_) fun c1 => ?_
 ·have d1 := of_decide_eq_true c1
 iterate 6 refine z ?_
 refine zK 0 Tryz.call107 ?_ (hf := b0Q (x := x) (k := o.2.2.1) (r := o.2.2.2.1) (by omega) (by omega))
 iterate 14 refine z ?_
 rw [c3Y d1]
 refine a0h (σ' := ⟨[(4, .box 4 0), (5, .one (.dv [] (.int .i64 (1)))), (6, .one (.dv [] (.bool ((a0O (x) (o.2.2.1) (o.2.2.2.1)).2))))], [(4, 77, [(.dv [] (.str ((a0O (x) (o.2.2.1) (o.2.2.2.1)).1.1))), (.key 9001), (.dv [] (.int .i64 ((a0O (x) (o.2.2.1) (o.2.2.2.1)).1.2.2)))])], [(9001, some (a0b false (a0x ((a0O x o.2.2.1 o.2.2.2.1).1.2.1))))]⟩) (a0e ⟨rfl, rfl, rfl, trivial⟩ ⟨rfl, trivial⟩ ⟨rfl, trivial⟩ rfl) ?_
 iterate 3 refine z ?_
 refine a1U (a0F hT rfl rfl rfl rfl) (a0m rfl) (a0m rfl) rfl rfl rfl ?_
 first | exact ⟨rfl, rfl⟩ | skip
 ·have d1 := of_decide_eq_false c1
 iterate 4 refine z ?_
 refine yQ rfl (fun c2 => ?_) fun c2 => ?_
 ·have d2 := of_decide_eq_true c2
  iterate 6 refine z ?_
  refine zK 0 Tryz.call108 ?_ (hf := c5w (x := x) (k := o.2.2.1) (r := o.2.2.2.1) (by omega) (by omega))
  iterate 14 refine z ?_
  rw [c7g d2]
  refine a0h (σ' := ⟨[(4, .box 4 0), (5, .one (.dv [] (.int .i64 (1)))), (6, .one (.dv [] (.bool ((a2G (x) (o.2.2.1) (o.2.2.2.1)).2))))], [(4, 77, [(.dv [] (.str ((a2G (x) (o.2.2.1) (o.2.2.2.1)).1.1))), (.key 9001), (.dv [] (.int .i64 ((a2G (x) (o.2.2.1) (o.2.2.2.1)).1.2.2)))])], [(9001, some (a0b false (a0x ((a2G x o.2.2.1 o.2.2.2.1).1.2.1))))]⟩) (a0e ⟨rfl, rfl, rfl, trivial⟩ ⟨rfl, trivial⟩ ⟨rfl, trivial⟩ rfl) ?_
  iterate 3 refine z ?_
  refine a1U (a0F hT rfl rfl rfl rfl) (a0m rfl) (a0m rfl) rfl rfl rfl ?_
  first | exact ⟨rfl, rfl⟩ | skip
 ·have d2 := of_decide_eq_false c2
  iterate 4 refine z ?_
  refine yQ rfl (fun c3 => ?_) fun c3 => ?_
  ·have d3 := of_decide_eq_true c3
  iterate 6 refine z ?_
  refine yO rfl rfl (a1v hT hB rfl rfl rfl (a1c a0K rfl rfl rfl rfl rfl (a1c a0K rfl rfl rfl rfl rfl (a1c (a0a rfl) rfl rfl rfl rfl rfl (a1c (a0a rfl) rfl rfl rfl rfl rfl a1w))))) rfl ?_
  refine zK 0 Tryz.call109 ?_ (hf := b7m (x := x) (r := rgK o.2.2.1) (by omega))
  iterate 14 refine z ?_
  rw [c2A d3]
  refine a0h (σ' := ⟨[(4, .box 4 0), (5, .one (.dv [] (.int .i64 ((a1L (x) (rgK o.2.2.1)).2)))), (6, .one (.dv [] (.bool (true))))], [(4, 77, [(.dv [] (.str ((a1L (x) (rgK o.2.2.1)).1.1))), (.key 9001), (.dv [] (.int .i64 ((a1L (x) (rgK o.2.2.1)).1.2.2)))])], [(9001, some (a0b false (a0x ((a1L x (rgK o.2.2.1)).1.2.1))))]⟩) (a0e ⟨rfl, rfl, rfl, trivial⟩ ⟨rfl, trivial⟩ ⟨rfl, trivial⟩ rfl) ?_
  iterate 3 refine z ?_
  refine a1U (a0F hT rfl rfl rfl rfl) (a0m rfl) (a0m rfl) rfl rfl rfl ?_
  first | exact ⟨rfl, rfl⟩ | skip
  ·have d3 := of_decide_eq_false c3
  iterate 4 refine z ?_
  refine yQ rfl (fun c4 => ?_) fun c4 => ?_
  ·have d4 := of_decide_eq_true c4
   iterate 2 refine z ?_
   refine yO rfl rfl (a1v hT hB rfl rfl rfl a1w) rfl ?_
   refine zK 0 Tryz.call109 ?_ (hf := b7m (x := x) (r := rg0) (by omega))
   iterate 14 refine z ?_
   rw [c7i d4]
   refine a0h (σ' := ⟨[(4, .box 4 0), (5, .one (.dv [] (.int .i64 ((a1L (x) (rg0)).2)))), (6, .one (.dv [] (.bool (true))))], [(4, 77, [(.dv [] (.str ((a1L (x) (rg0)).1.1))), (.key 9001), (.dv [] (.int .i64 ((a1L (x) (rg0)).1.2.2)))])], [(9001, some (a0b false (a0x ((a1L x rg0).1.2.1))))]⟩) (a0e ⟨rfl, rfl, rfl, trivial⟩ ⟨rfl, trivial⟩ ⟨rfl, trivial⟩ rfl) ?_
   iterate 3 refine z ?_
   refine a1U (a0F hT rfl rfl rfl rfl) (a0m rfl) (a0m rfl) rfl rfl rfl ?_
   first | exact ⟨rfl, rfl⟩ | skip
  ·have d4 := of_decide_eq_false c4
   iterate 4 refine z ?_
   refine yQ rfl (fun c5 => ?_) fun c5 => ?_
   ·have d5 := of_decide_eq_true c5
   exact absurd d5 (c6M hal)
   ·have d5 := of_decide_eq_false c5
   iterate 4 refine z ?_
   refine yO rfl rfl (a1v hT hB rfl rfl rfl a1w) rfl ?_
   iterate 8 refine z ?_
   refine yQ rfl (fun c6 => ?_) fun c6 => ?_
   ·have d6 := of_decide_eq_true c6
    have hb9 := b2C hs d6
    have hgb := a8T (n := o.2.2.2.2) hb9
    have hrl := a7n hb9
    have hrq := b4g d6
    have hlt9 := a5d d6
    have hsl := b2g ((x.2.1.getD (a0T x o.2.2.1).toNat default).2) o.2.2.2.2 ((a1a ((x.2.1.getD (a0T x o.2.2.1).toNat default).2) o.2.2.2.2).1 + 1)
    refine a0n ?_
    iterate 12 refine z ?_
    refine zC Tryz.call105 ?_ (hf := a5Q (x := ((x.2.1.getD (a0T x o.2.2.1).toNat default).2)) (n := o.2.2.2.2))
    iterate 12 refine z ?_
    refine zK 499 Tryz.call110 ?_ (hf := b1q (r := ((x.2.1.getD (a0T x o.2.2.1).toNat default).2)) (n := o.2.2.2.2) (v := (a1a ((x.2.1.getD (a0T x o.2.2.1).toNat default).2) o.2.2.2.2).1 + 1) (by omega))
    iterate 11 refine z ?_
    refine yQ rfl (fun c7 => ?_) fun c7 => ?_
    ·exact absurd c7 (b8B hal d1 d2 d3 d4 hrq)
    ·iterate 7 refine z ?_
    refine a2I 0 rfl rfl rfl Tryz.call107 (b0Q (x := x) (k := o.2.2.1) (r := (a1G ((x.2.1.getD (a0T x o.2.2.1).toNat default).2) o.2.2.2.2 ((a1a ((x.2.1.getD (a0T x o.2.2.1).toNat default).2) o.2.2.2.2).1 + 1)).1) (by omega) (by omega)) (a0g (a0a rfl) (a0u (a0d a0c (a0d a0c (a0d a0c a0t)))) (a0g (a0a rfl) (a0u (a0d a0c (a0d a0c (a0d a0c a0t)))) (a0g (a0a rfl) (a0u (a0d (a0X rfl rfl) a0t)) a0q))) rfl rfl rfl ?_
    iterate 16 refine z ?_
    rw [b6n d1 d2 d3 d4 d5 hrq c7]
    refine a0h (σ' := ⟨[(4, .box 4 0), (5, .one (.dv [] (.int .i64 (((a1a ((((x.2.1)).getD (a0T (x) (o.2.2.1)).toNat default).2) (o.2.2.2.2)).1) + (1))))), (6, .one (.dv [] (.bool ((a0O (x) (o.2.2.1) ((a1G ((((x.2.1)).getD (a0T (x) (o.2.2.1)).toNat default).2) (o.2.2.2.2) (((a1a ((((x.2.1)).getD (a0T (x) (o.2.2.1)).toNat default).2) (o.2.2.2.2)).1) + (1))).1)).2))))], [(4, 77, [(.dv [] (.str ((a0O (x) (o.2.2.1) ((a1G ((((x.2.1)).getD (a0T (x) (o.2.2.1)).toNat default).2) (o.2.2.2.2) (((a1a ((((x.2.1)).getD (a0T (x) (o.2.2.1)).toNat default).2) (o.2.2.2.2)).1) + (1))).1)).1.1))), (.key 9001), (.dv [] (.int .i64 ((a0O (x) (o.2.2.1) ((a1G ((((x.2.1)).getD (a0T (x) (o.2.2.1)).toNat default).2) (o.2.2.2.2) (((a1a ((((x.2.1)).getD (a0T (x) (o.2.2.1)).toNat default).2) (o.2.2.2.2)).1) + (1))).1)).1.2.2)))])], [(9001, some (a0b false (a0x ((a0O x o.2.2.1 (a1G ((x.2.1.getD (a0T x o.2.2.1).toNat default).2) o.2.2.2.2 ((a1a ((x.2.1.getD (a0T x o.2.2.1).toNat default).2) o.2.2.2.2).1 + 1)).1).1.2.1))))]⟩) (a0e ⟨rfl, rfl, rfl, trivial⟩ ⟨rfl, trivial⟩ ⟨rfl, trivial⟩ rfl) ?_
    refine z ?_
    refine a1U (a0F hT rfl rfl rfl rfl) (a0m rfl) (a0m rfl) rfl rfl rfl ?_
    first | exact ⟨rfl, rfl⟩ | skip
   ·have d6 := of_decide_eq_false c6
    have hb9 : a1b [] = true := rfl
    have hgb := a8T (n := o.2.2.2.2) hb9
    have hrl := a7n hb9
    have hrq := b3g d6
    have hsl := b2g ([] : a0v) o.2.2.2.2 ((a1a ([] : a0v) o.2.2.2.2).1 + 1)
    iterate 6 refine z ?_
    refine a3S rfl rfl rfl Tryz.call105 (a5Q (x := ([] : a0v)) (n := o.2.2.2.2)) (a0g (a0a rfl) (a0u (a0d (a5o rfl rfl) a0t)) (a0g (a0a rfl) (a0D a0c) a0q)) rfl rfl ?_
    iterate 12 refine z ?_
    refine a2I 499 rfl rfl rfl Tryz.call110 (b1q (r := ([] : a0v)) (n := o.2.2.2.2) (v := (a1a ([] : a0v) o.2.2.2.2).1 + 1) (by omega)) (a0g (a0a rfl) (a0u (a0d (a5o rfl rfl) a0t)) (a0g (a0a rfl) (a0D a0c) (a0g (a0a rfl) (a0D a0c) a0q))) rfl rfl rfl ?_
    iterate 11 refine z ?_
    refine yQ rfl (fun c8 => ?_) fun c8 => ?_
    ·exact absurd c8 (b8B hal d1 d2 d3 d4 hrq)
    ·iterate 7 refine z ?_
    refine a2I 0 rfl rfl rfl Tryz.call107 (b0Q (x := x) (k := o.2.2.1) (r := (a1G ([] : a0v) o.2.2.2.2 ((a1a ([] : a0v) o.2.2.2.2).1 + 1)).1) (by omega) (by omega)) (a0g (a0a rfl) (a0u (a0d a0c (a0d a0c (a0d a0c a0t)))) (a0g (a0a rfl) (a0u (a0d a0c (a0d a0c (a0d a0c a0t)))) (a0g (a0a rfl) (a0u (a0d (a0X rfl rfl) a0t)) a0q))) rfl rfl rfl ?_
    iterate 16 refine z ?_
    rw [b6n d1 d2 d3 d4 d5 hrq c8]
    refine a0h (σ' := ⟨[(4, .box 4 0), (5, .one (.dv [] (.int .i64 (((a1a ([]) (o.2.2.2.2)).1) + (1))))), (6, .one (.dv [] (.bool ((a0O (x) (o.2.2.1) ((a1G ([]) (o.2.2.2.2) (((a1a ([]) (o.2.2.2.2)).1) + (1))).1)).2))))], [(4, 77, [(.dv [] (.str ((a0O (x) (o.2.2.1) ((a1G ([]) (o.2.2.2.2) (((a1a ([]) (o.2.2.2.2)).1) + (1))).1)).1.1))), (.key 9001), (.dv [] (.int .i64 ((a0O (x) (o.2.2.1) ((a1G ([]) (o.2.2.2.2) (((a1a ([]) (o.2.2.2.2)).1) + (1))).1)).1.2.2)))])], [(9001, some (a0b false (a0x ((a0O x o.2.2.1 (a1G ([] : a0v) o.2.2.2.2 ((a1a ([] : a0v) o.2.2.2.2).1 + 1)).1).1.2.1))))]⟩) (a0e ⟨rfl, rfl, rfl, trivial⟩ ⟨rfl, trivial⟩ ⟨rfl, trivial⟩ rfl) ?_
    refine z ?_
    refine a1U (a0F hT rfl rfl rfl rfl) (a0m rfl) (a0m rfl) rfl rfl rfl ?_
    first | exact ⟨rfl, rfl⟩ | skip
theorem c5k {x : a0G} {k : a0L} {f : Str} (hs : a1i x = true) : KFn Tryz.prog 93 [.agg [(.dv [] (.str (x.1))), (.dv [] (a0x (x.2.1))), (.dv [] (.int .i64 (x.2.2)))], .agg [(.dv [] (.int .i64 (k.1))), (.dv [] (.int .i64 (k.2.1))), (.dv [] (.str (k.2.2)))], .one (.dv [] (.str (f)))] (.tup [(true, [(.dv [] (.str ((a3B x k f).1.1))), (.key 9001), (.dv [] (.int .i64 ((a3B x k f).1.2.2)))]), (false, [(.dv [] (.int .i64 ((a3B x k f).2.1)))]), (false, [(.dv [] (.bool ((a3B x k f).2.2)))])]) [(9001, some (a0b false (a0x ((a3B x k f).1.2.1))))] := by
 refine ⟨a0Q Tryz.func93 rfl Tryz.ntmps93 Tryz.results93 rfl (fun C => ?_)⟩
 have hsw := a6C hs
 refine yF 0 0 rfl rfl fun f0_0 => ?_
 refine yF 0 1 rfl rfl fun f0_1 => ?_
 refine yF 0 2 rfl rfl fun f0_2 => ?_
 refine yF 1 0 rfl rfl fun f1_0 => ?_
 refine yF 1 1 rfl rfl fun f1_1 => ?_
 refine yF 1 2 rfl rfl fun f1_2 => ?_
 refine a1k (x := .tmp 2) (a0a rfl) fun f2 => ?_
 iterate 8 refine z ?_
 refine yO rfl rfl (a1v hT hB rfl rfl rfl a1w) rfl ?_
 iterate 7 refine z ?_
 refine zC Tryz.call92 ?_ (hf := b1V (x := x) (k := k) )
 iterate 6 refine z ?_
 refine yQ rfl (fun c1 => ?_) fun c1 => ?_
 ·have d1 := of_decide_eq_true c1
 have hb9 := b2C hs d1
 have hgb := a8T (n := f) hb9
 have hrl := a7n hb9
 have hrq := b4g d1
 have hlt9 := a5d d1
 have hsl := b2g ((x.2.1.getD (a0T x k).toNat default).2) f ((a1a ((x.2.1.getD (a0T x k).toNat default).2) f).1 + 1)
 refine a0n ?_
 iterate 11 refine z ?_
 refine zC Tryz.call89 ?_ (hf := a7D (x := ((x.2.1.getD (a0T x k).toNat default).2)) (n := f))
 iterate 11 refine z ?_
 refine zK 499 Tryz.call97 ?_ (hf := b4p (r := ((x.2.1.getD (a0T x k).toNat default).2)) (n := f) (v := (a1a ((x.2.1.getD (a0T x k).toNat default).2) f).1 + 1) (by omega))
 iterate 11 refine z ?_
 refine a2I 0 rfl rfl rfl Tryz.call65 (a8L (x := x) (k := k) (r := (a1G ((x.2.1.getD (a0T x k).toNat default).2) f ((a1a ((x.2.1.getD (a0T x k).toNat default).2) f).1 + 1)).1) (by omega) (by omega)) (a0g (a0a rfl) (a0u (a0d a0c (a0d a0c (a0d a0c a0t)))) (a0g (a0a rfl) (a0u (a0d a0c (a0d a0c (a0d a0c a0t)))) (a0g (a0a rfl) (a0u (a0d (a0X rfl rfl) a0t)) a0q))) rfl rfl rfl ?_
 iterate 19 refine z ?_
 have hfin : a3B x k f = ((a0O x k (a1G ((x.2.1.getD (a0T x k).toNat default).2) f ((a1a ((x.2.1.getD (a0T x k).toNat default).2) f).1 + 1)).1).1, (a1a ((x.2.1.getD (a0T x k).toNat default).2) f).1 + 1, (a1G ((x.2.1.getD (a0T x k).toNat default).2) f ((a1a ((x.2.1.getD (a0T x k).toNat default).2) f).1 + 1)).2 && (a0O x k (a1G ((x.2.1.getD (a0T x k).toNat default).2) f ((a1a ((x.2.1.getD (a0T x k).toNat default).2) f).1 + 1)).1).2) := by rw [a3B, hrq]; rfl
 rw [hfin]
 refine a0h (σ' := ⟨[(6, .box 6 0), (7, .one (.dv [] (.int .i64 (((a1a ((((x.2.1)).getD (a0T (x) (k)).toNat default).2) (f)).1) + (1))))), (8, .one (.dv [] (.bool (((a1G ((((x.2.1)).getD (a0T (x) (k)).toNat default).2) (f) (((a1a ((((x.2.1)).getD (a0T (x) (k)).toNat default).2) (f)).1) + (1))).2) && ((a0O (x) (k) ((a1G ((((x.2.1)).getD (a0T (x) (k)).toNat default).2) (f) (((a1a ((((x.2.1)).getD (a0T (x) (k)).toNat default).2) (f)).1) + (1))).1)).2)))))], [(6, 77, [(.dv [] (.str ((a0O (x) (k) ((a1G ((((x.2.1)).getD (a0T (x) (k)).toNat default).2) (f) (((a1a ((((x.2.1)).getD (a0T (x) (k)).toNat default).2) (f)).1) + (1))).1)).1.1))), (.key 9001), (.dv [] (.int .i64 ((a0O (x) (k) ((a1G ((((x.2.1)).getD (a0T (x) (k)).toNat default).2) (f) (((a1a ((((x.2.1)).getD (a0T (x) (k)).toNat default).2) (f)).1) + (1))).1)).1.2.2)))])], [(9001, some (a0b false (a0x ((a0O x k (a1G ((x.2.1.getD (a0T x k).toNat default).2) f ((a1a ((x.2.1.getD (a0T x k).toNat default).2) f).1 + 1)).1).1.2.1))))]⟩) (a0e ⟨rfl, rfl, rfl, trivial⟩ ⟨rfl, trivial⟩ ⟨rfl, trivial⟩ rfl) ?_
 refine z ?_
 refine a1U (a0F hT rfl rfl rfl rfl) (a0m rfl) (a0m rfl) rfl rfl rfl ?_
 first | exact ⟨rfl, rfl⟩ | skip
 ·have d1 := of_decide_eq_false c1
 have hb9 : a1b [] = true := rfl
 have hgb := a8T (n := f) hb9
 have hrl := a7n hb9
 have hrq := b3g d1
 have hsl := b2g ([] : a0v) f ((a1a ([] : a0v) f).1 + 1)
 iterate 5 refine z ?_
 refine a3S rfl rfl rfl Tryz.call89 (a7D (x := ([] : a0v)) (n := f)) (a0g (a0a rfl) (a0u (a0d (a5o rfl rfl) a0t)) (a0g (a0a rfl) (a0D a0c) a0q)) rfl rfl ?_
 iterate 11 refine z ?_
 refine a2I 499 rfl rfl rfl Tryz.call97 (b4p (r := ([] : a0v)) (n := f) (v := (a1a ([] : a0v) f).1 + 1) (by omega)) (a0g (a0a rfl) (a0u (a0d (a5o rfl rfl) a0t)) (a0g (a0a rfl) (a0D a0c) (a0g (a0a rfl) (a0D a0c) a0q))) rfl rfl rfl ?_
 iterate 11 refine z ?_
 refine a2I 0 rfl rfl rfl Tryz.call65 (a8L (x := x) (k := k) (r := (a1G ([] : a0v) f ((a1a ([] : a0v) f).1 + 1)).1) (by omega) (by omega)) (a0g (a0a rfl) (a0u (a0d a0c (a0d a0c (a0d a0c a0t)))) (a0g (a0a rfl) (a0u (a0d a0c (a0d a0c (a0d a0c a0t)))) (a0g (a0a rfl) (a0u (a0d (a0X rfl rfl) a0t)) a0q))) rfl rfl rfl ?_
 iterate 19 refine z ?_
 have hfin : a3B x k f = ((a0O x k (a1G ([] : a0v) f ((a1a ([] : a0v) f).1 + 1)).1).1, (a1a ([] : a0v) f).1 + 1, (a1G ([] : a0v) f ((a1a ([] : a0v) f).1 + 1)).2 && (a0O x k (a1G ([] : a0v) f ((a1a ([] : a0v) f).1 + 1)).1).2) := by rw [a3B, hrq]; rfl
 rw [hfin]
 refine a0h (σ' := ⟨[(6, .box 6 0), (7, .one (.dv [] (.int .i64 (((a1a ([]) (f)).1) + (1))))), (8, .one (.dv [] (.bool (((a1G ([]) (f) (((a1a ([]) (f)).1) + (1))).2) && ((a0O (x) (k) ((a1G ([]) (f) (((a1a ([]) (f)).1) + (1))).1)).2)))))], [(6, 77, [(.dv [] (.str ((a0O (x) (k) ((a1G ([]) (f) (((a1a ([]) (f)).1) + (1))).1)).1.1))), (.key 9001), (.dv [] (.int .i64 ((a0O (x) (k) ((a1G ([]) (f) (((a1a ([]) (f)).1) + (1))).1)).1.2.2)))])], [(9001, some (a0b false (a0x ((a0O x k (a1G ([] : a0v) f ((a1a ([] : a0v) f).1 + 1)).1).1.2.1))))]⟩) (a0e ⟨rfl, rfl, rfl, trivial⟩ ⟨rfl, trivial⟩ ⟨rfl, trivial⟩ rfl) ?_
 refine z ?_
 refine a1U (a0F hT rfl rfl rfl rfl) (a0m rfl) (a0m rfl) rfl rfl rfl ?_
 first | exact ⟨rfl, rfl⟩ | skip
section
variable {x : a0G} {o : OpT}
theorem c4A (h : o.1 = 1) : opM x o = ((a0O x o.2.2.1 o.2.2.2.1).1, 1, (a0O x o.2.2.1 o.2.2.2.1).2) := by rw [opM, if_pos h]
theorem c2d (h : o.1 = 2) : opM x o = ((a2G x o.2.2.1 o.2.2.2.1).1, 1, (a2G x o.2.2.1 o.2.2.2.1).2) := by rw [opM, if_neg (by omega), if_pos h]
theorem c1D (h : o.1 = 3) : opM x o = ((a1L x (rgK o.2.2.1)).1, (a1L x (rgK o.2.2.1)).2, true) := by rw [opM, if_neg (by omega), if_neg (by omega), if_pos h]
theorem c2t (h : o.1 = 5) : opM x o = ((a1L x rg0).1, (a1L x rg0).2, true) := by rw [opM, if_neg (by omega), if_neg (by omega), if_neg (by omega), if_neg (by omega), if_pos h]
theorem c5h (h : o.1 = 4) (h2 : a0T x o.2.2.1 < 0) : opM x o = (x, -1, true) := by rw [opM, if_neg (by omega), if_neg (by omega), if_neg (by omega), if_pos h, a8i, if_pos h2]
theorem c8W (h : o.1 = 4) (h2 : ¬ a0T x o.2.2.1 < 0) : opM x o = (x, ((x.2.1.getD (a0T x o.2.2.1).toNat default).2.length : Int), true) := by rw [opM, if_neg (by omega), if_neg (by omega), if_neg (by omega), if_pos h, a8i, if_neg h2]
theorem c5e (h1 : o.1 ≠ 1) (h2 : o.1 ≠ 2) (h3 : o.1 ≠ 3) (h4 : o.1 ≠ 4) (h5 : o.1 ≠ 5) : opM x o = a3B x o.2.2.1 o.2.2.2.2 := by rw [opM, if_neg h1, if_neg h2, if_neg h3, if_neg h4, if_neg h5]
end
theorem c9b {x : a0G} {o : OpT} (hs : a1i x = true) (ho : a1s o = true) : KFn Tryz.prog 56 [.agg [(.dv [] (.str (x.1))), (.dv [] (a0x (x.2.1))), (.dv [] (.int .i64 (x.2.2)))], .agg [(.dv [] (.int .i64 (o.1))), (.dv [] (.str (o.2.1))), (.dv [] (.int .i64 (o.2.2.1.1))), (.dv [] (.int .i64 (o.2.2.1.2.1))), (.dv [] (.str (o.2.2.1.2.2))), (.dv [] (a0J (o.2.2.2.1))), (.dv [] (.str (o.2.2.2.2)))]] (.tup [(true, [(.dv [] (.str ((opM x o).1.1))), (.key 9001), (.dv [] (.int .i64 ((opM x o).1.2.2)))]), (false, [(.dv [] (.int .i64 ((opM x o).2.1)))]), (false, [(.dv [] (.bool ((opM x o).2.2)))])]) [(9001, some (a0b false (a0x ((opM x o).1.2.1))))] := by
 refine ⟨a0Q Tryz.func56 rfl Tryz.ntmps56 Tryz.results56 rfl (fun C => ?_)⟩
 have hsw := a6C hs
 have hor := b2w ho
 refine yF 0 0 rfl rfl fun f0_0 => ?_
 refine yF 0 1 rfl rfl fun f0_1 => ?_
 refine yF 0 2 rfl rfl fun f0_2 => ?_
 refine yF 1 0 rfl rfl fun f1_0 => ?_
 refine yF 1 1 rfl rfl fun f1_1 => ?_
 refine yF 1 2 rfl rfl fun f1_2 => ?_
 refine yF 1 3 rfl rfl fun f1_3 => ?_
 refine yF 1 4 rfl rfl fun f1_4 => ?_
 refine yF 1 5 rfl rfl fun f1_5 => ?_
 refine yF 1 6 rfl rfl fun f1_6 => ?_
 iterate 17 refine z ?_
 refine yQ rfl (fun c1 => ?_) fun c1 => ?_
 ·have d1 := of_decide_eq_true c1
 iterate 6 refine z ?_
 refine zK 0 Tryz.call65 ?_ (hf := a8L (x := x) (k := o.2.2.1) (r := o.2.2.2.1) (by omega) (by omega))
 iterate 14 refine z ?_
 rw [c4A d1]
 refine a0h (σ' := ⟨[(4, .box 4 0), (5, .one (.dv [] (.int .i64 (1)))), (6, .one (.dv [] (.bool ((a0O (x) (o.2.2.1) (o.2.2.2.1)).2))))], [(4, 77, [(.dv [] (.str ((a0O (x) (o.2.2.1) (o.2.2.2.1)).1.1))), (.key 9001), (.dv [] (.int .i64 ((a0O (x) (o.2.2.1) (o.2.2.2.1)).1.2.2)))])], [(9001, some (a0b false (a0x ((a0O x o.2.2.1 o.2.2.2.1).1.2.1))))]⟩) (a0e ⟨rfl, rfl, rfl, trivial⟩ ⟨rfl, trivial⟩ ⟨rfl, trivial⟩ rfl) ?_
 iterate 3 refine z ?_
 refine a1U (a0F hT rfl rfl rfl rfl) (a0m rfl) (a0m rfl) rfl rfl rfl ?_
 first | exact ⟨rfl, rfl⟩ | skip
 ·have d1 := of_decide_eq_false c1
 iterate 4 refine z ?_
 refine yQ rfl (fun c2 => ?_) fun c2 => ?_
 ·have d2 := of_decide_eq_true c2
  iterate 6 refine z ?_
  refine zK 0 Tryz.call90 ?_ (hf := c4Q (x := x) (k := o.2.2.1) (r := o.2.2.2.1) (by omega) (by omega))
  iterate 14 refine z ?_
  rw [c2d d2]
  refine a0h (σ' := ⟨[(4, .box 4 0), (5, .one (.dv [] (.int .i64 (1)))), (6, .one (.dv [] (.bool ((a2G (x) (o.2.2.1) (o.2.2.2.1)).2))))], [(4, 77, [(.dv [] (.str ((a2G (x) (o.2.2.1) (o.2.2.2.1)).1.1))), (.key 9001), (.dv [] (.int .i64 ((a2G (x) (o.2.2.1) (o.2.2.2.1)).1.2.2)))])], [(9001, some (a0b false (a0x ((a2G x o.2.2.1 o.2.2.2.1).1.2.1))))]⟩) (a0e ⟨rfl, rfl, rfl, trivial⟩ ⟨rfl, trivial⟩ ⟨rfl, trivial⟩ rfl) ?_
  iterate 3 refine z ?_
  refine a1U (a0F hT rfl rfl rfl rfl) (a0m rfl) (a0m rfl) rfl rfl rfl ?_
  first | exact ⟨rfl, rfl⟩ | skip
 ·have d2 := of_decide_eq_false c2
  iterate 4 refine z ?_
  refine yQ rfl (fun c3 => ?_) fun c3 => ?_
  ·have d3 := of_decide_eq_true c3
  iterate 6 refine z ?_
  refine yO rfl rfl (a1v hT hB rfl rfl rfl (a1c a0K rfl rfl rfl rfl rfl (a1c a0K rfl rfl rfl rfl rfl (a1c (a0a rfl) rfl rfl rfl rfl rfl (a1c (a0a rfl) rfl rfl rfl rfl rfl a1w))))) rfl ?_
  refine zK 0 Tryz.call91 ?_ (hf := c0L (x := x) (r := rgK o.2.2.1) (by omega))
  iterate 14 refine z ?_
  rw [c1D d3]
  refine a0h (σ' := ⟨[(4, .box 4 0), (5, .one (.dv [] (.int .i64 ((a1L (x) (rgK o.2.2.1)).2)))), (6, .one (.dv [] (.bool (true))))], [(4, 77, [(.dv [] (.str ((a1L (x) (rgK o.2.2.1)).1.1))), (.key 9001), (.dv [] (.int .i64 ((a1L (x) (rgK o.2.2.1)).1.2.2)))])], [(9001, some (a0b false (a0x ((a1L x (rgK o.2.2.1)).1.2.1))))]⟩) (a0e ⟨rfl, rfl, rfl, trivial⟩ ⟨rfl, trivial⟩ ⟨rfl, trivial⟩ rfl) ?_
  iterate 3 refine z ?_
  refine a1U (a0F hT rfl rfl rfl rfl) (a0m rfl) (a0m rfl) rfl rfl rfl ?_
  first | exact ⟨rfl, rfl⟩ | skip
  ·have d3 := of_decide_eq_false c3
  iterate 4 refine z ?_
  refine yQ rfl (fun c4 => ?_) fun c4 => ?_
  ·have d4 := of_decide_eq_true c4
   iterate 4 refine z ?_
   refine zC Tryz.call92 ?_ (hf := b1V (x := x) (k := o.2.2.1) )
   iterate 7 refine z ?_
   refine yQ rfl (fun c5 => ?_) fun c5 => ?_
   ·have d5 := of_decide_eq_true c5
   iterate 2 refine z ?_
   refine zK 8971 Tryz.call49 ?_ (hf := a7q (x := x) (by omega))
   iterate 4 refine z ?_
   rw [c5h d4 d5]
   refine a0h (σ' := ⟨[(4, .box 4 0), (5, .one (.dv [] (.int .i64 (-1)))), (6, .one (.dv [] (.bool (true))))], [(4, 77, [(.dv [] (.str ((x).1))), (.key 9001), (.dv [] (.int .i64 ((x).2.2)))])], [(9001, some (a0b false (a0x (x.2.1))))]⟩) (a0e ⟨rfl, rfl, rfl, trivial⟩ ⟨rfl, trivial⟩ ⟨rfl, trivial⟩ rfl) ?_
   iterate 4 refine z ?_
   refine a1U (a0F hT rfl rfl rfl rfl) (a0m rfl) (a0m rfl) rfl rfl rfl ?_
   first | exact ⟨rfl, rfl⟩ | skip
   ·have d5 := of_decide_eq_false c5
   have hfx : a0T x o.2.2.1 < x.2.1.length := by have := a5d (x := x) (k := o.2.2.1) (by omega); omega
   iterate 2 refine z ?_
   refine a0s ?_
   refine c7x 4 [0, 1, 2, 3, 4, 5, 6, 7, 8, 9, 10] (oB := [2, 3]) (oK := []) (by kernel_rfl) rfl rfl ?_
   refine a5U 0 rfl (by kernel_rfl) rfl rfl (a4C hT rfl rfl (a0a rfl) rfl rfl) rfl rfl rfl rfl rfl ?_
   refine a5U 2 rfl (by kernel_rfl) rfl rfl (a5B hT rfl rfl rfl (a0a rfl)) rfl rfl rfl rfl rfl ?_
   refine a5U 3 rfl (by kernel_rfl) rfl rfl (a4h hT rfl rfl (a0a rfl) rfl rfl) rfl rfl rfl rfl rfl ?_
   refine a5U 4 rfl (by kernel_rfl) rfl rfl (a0N (.inl rfl) (a0a rfl)) rfl rfl rfl rfl rfl ?_
   refine a5U 5 rfl (by kernel_rfl) rfl rfl (a5f hT rfl rfl rfl (a0a rfl) (a0a rfl) (fun _ => rfl) (by omega) (by omega)) rfl rfl rfl rfl rfl ?_
   refine a5U 6 rfl (by kernel_rfl) rfl rfl (a6b hT rfl rfl rfl (a0a rfl)) rfl rfl rfl rfl rfl ?_
   refine a5U 7 rfl (by kernel_rfl) rfl rfl (a6b hT rfl rfl rfl (a0a rfl)) rfl rfl rfl rfl rfl ?_
   refine a5U 8 rfl (by kernel_rfl) rfl rfl (b3E hT rfl rfl (a0a rfl) rfl) rfl rfl rfl rfl rfl ?_
   refine a5U 9 rfl (by kernel_rfl) rfl rfl (a6E hT rfl rfl (a0a rfl)) rfl rfl rfl rfl rfl ?_
   refine c2v 8971 1 rfl (by kernel_rfl) rfl rfl rfl Tryz.call49 (a7q (x := x) (by omega)) (a0g (a0a rfl) (a0u (a0d a0c (a0d a0c (a0d a0c a0t)))) a0q) rfl rfl rfl rfl rfl rfl ?_
   refine c3S 10 rfl (by kernel_rfl) rfl hT rfl rfl rfl (a0a rfl) (a0a rfl) rfl rfl rfl rfl rfl rfl ?_
   refine c6D [11, 12] rfl rfl (by kernel_rfl) ?_
   iterate 3 refine z ?_
   rw [c8W d4 d5]
   refine a0h (σ' := ⟨[(4, .box 4 0), (5, .one (.dv [] (.int .i64 (((((((x.2.1)).getD (a0T (x) (o.2.2.1)).toNat default).2)).length : Int))))), (6, .one (.dv [] (.bool (true))))], [(4, 77, [(.dv [] (.str ((x).1))), (.key 9001), (.dv [] (.int .i64 ((x).2.2)))])], [(9001, some (a0b false (a0x (x.2.1))))]⟩) (a0e ⟨rfl, rfl, rfl, trivial⟩ ⟨rfl, trivial⟩ ⟨rfl, trivial⟩ rfl) ?_
   iterate 3 refine z ?_
   refine a1U (a0F hT rfl rfl rfl rfl) (a0m rfl) (a0m rfl) rfl rfl rfl ?_
   first | exact ⟨rfl, rfl⟩ | skip
  ·have d4 := of_decide_eq_false c4
   iterate 4 refine z ?_
   refine yQ rfl (fun c6 => ?_) fun c6 => ?_
   ·have d6 := of_decide_eq_true c6
   iterate 2 refine z ?_
   refine yO rfl rfl (a1v hT hB rfl rfl rfl a1w) rfl ?_
   refine zK 0 Tryz.call91 ?_ (hf := c0L (x := x) (r := rg0) (by omega))
   iterate 14 refine z ?_
   rw [c2t d6]
   refine a0h (σ' := ⟨[(4, .box 4 0), (5, .one (.dv [] (.int .i64 ((a1L (x) (rg0)).2)))), (6, .one (.dv [] (.bool (true))))], [(4, 77, [(.dv [] (.str ((a1L (x) (rg0)).1.1))), (.key 9001), (.dv [] (.int .i64 ((a1L (x) (rg0)).1.2.2)))])], [(9001, some (a0b false (a0x ((a1L x rg0).1.2.1))))]⟩) (a0e ⟨rfl, rfl, rfl, trivial⟩ ⟨rfl, trivial⟩ ⟨rfl, trivial⟩ rfl) ?_
   iterate 3 refine z ?_
   refine a1U (a0F hT rfl rfl rfl rfl) (a0m rfl) (a0m rfl) rfl rfl rfl ?_
   first | exact ⟨rfl, rfl⟩ | skip
   ·have d6 := of_decide_eq_false c6
   iterate 9 refine z ?_
   refine zK 0 Tryz.call93 ?_ (hf := c5k (x := x) (k := o.2.2.1) (f := o.2.2.2.2) hs)
   iterate 7 refine z ?_
   rw [c5e d1 d2 d3 d4 d6]
   refine a0h (σ' := ⟨[(4, .box 4 0), (5, .one (.dv [] (.int .i64 ((a3B (x) (o.2.2.1) (o.2.2.2.2)).2.1)))), (6, .one (.dv [] (.bool ((a3B (x) (o.2.2.1) (o.2.2.2.2)).2.2))))], [(4, 77, [(.dv [] (.str ((a3B (x) (o.2.2.1) (o.2.2.2.2)).1.1))), (.key 9001), (.dv [] (.int .i64 ((a3B (x) (o.2.2.1) (o.2.2.2.2)).1.2.2)))])], [(9001, some (a0b false (a0x ((a3B x o.2.2.1 o.2.2.2.2).1.2.1))))]⟩) (a0e ⟨rfl, rfl, rfl, trivial⟩ ⟨rfl, trivial⟩ ⟨rfl, trivial⟩ rfl) ?_
   refine z ?_
   refine a1U (a0F hT rfl rfl rfl rfl) (a0m rfl) (a0m rfl) rfl rfl rfl ?_
   first | exact ⟨rfl, rfl⟩ | skip
theorem b5X {α : Type} {enc : α → List DV} {sz : Nat} {xs : List α} {i : Nat} (hs : ∀ y, (enc y).length = sz) (hi : i < xs.length) : i * sz + sz ≤ (xs.flatMap enc).length := by
 rw [a5a hs]
 have : (i + 1) * sz ≤ xs.length * sz := Nat.mul_le_mul_right _ hi
 rw [Nat.add_mul, Nat.one_mul] at this
 exact this
section
variable {α : Type} {enc : α → List DV} {sz : Nat} {xs : List α} {i : Nat} [Inhabited α]
theorem b4M (hs : ∀ y, (enc y).length = sz) (hi : i < xs.length) : sub (i * sz) sz (xs.flatMap enc) = enc (xs.getD i default) := by
 obtain ⟨_, h2⟩ := a7k hs i xs
 have e : xs.drop i = xs.getD i default :: xs.drop (i + 1) := by rw [List.drop_eq_getElem_cons hi]; simp [List.getD, List.getElem?_eq_getElem hi]
 rw [sub, h2, e, List.flatMap_cons, List.take_left' (hs _)]
theorem c0k (hs : ∀ y, (enc y).length = sz) (hi : i < xs.length) (y : α) : a1d (i * sz) (enc y) (xs.flatMap enc) = (xs.set i y).flatMap enc := by
 have e : xs.flatMap enc = (xs.take i).flatMap enc ++ (enc (xs.getD i default) ++ (xs.drop (i + 1)).flatMap enc) := by
 have e : xs.drop i = xs.getD i default :: xs.drop (i + 1) := by rw [List.drop_eq_getElem_cons hi]; simp [List.getD, List.getElem?_eq_getElem hi]
 rw [← List.flatMap_cons, ← e, ← List.flatMap_append, List.take_append_drop]
 rw [e, a7e (by rw [a5a hs, List.length_take]; congr 1; omega) (by rw [hs, hs]), List.set_eq_take_append_cons_drop, if_pos hi, List.flatMap_append, List.flatMap_cons]
end
def a3o (d : DbT) (i : Nat) (s : a0G) : DbT := (d.1, d.2.1, d.2.2.1.set i s, d.2.2.2)
def a2S (d : DbT) (o : OpT) : a0G := d.2.2.1.getD (a1D d o.2.1).toNat default
def a1j (d : DbT) (o : OpT) : DbT × Int × Bool :=
 if ((!a1e d || !a1s o) || decide (a1D d o.2.1 < 0)) = true then (d, 0, false)
 else if (!(opM (a2S d o) o).2.2 || !a1e (a3o d (a1D d o.2.1).toNat (opM (a2S d o) o).1)) = true then (d, 0, false)
 else (a3o d (a1D d o.2.1).toNat (opM (a2S d o) o).1, (opM (a2S d o) o).2.1, true)
theorem a9t {d : DbT} {o : OpT} (h : ((!a1e d || !a1s o) || decide (a1D d o.2.1 < 0)) = false) : a1e d = true ∧ a1s o = true ∧ 0 ≤ a1D d o.2.1 := by
 simp only [Bool.or_eq_false_iff, Bool.not_eq_false', decide_eq_false_iff_not] at h
 exact ⟨h.1.1, h.1.2, by omega⟩
theorem b0s {d : DbT} (h : a1e d = true) : a6a d = true := by
 rw [a1e] at h
 simp only [Bool.and_eq_true] at h
 exact h.2.1
theorem b4v {d : DbT} {o : OpT} (h : ((!a1e d || !a1s o) || decide (a1D d o.2.1 < 0)) = true) : a1j d o = (d, 0, false) := by rw [a1j, if_pos h]
theorem b4d {d : DbT} {o : OpT} {r : a0G × Int × Bool} (h : ((!a1e d || !a1s o) || decide (a1D d o.2.1 < 0)) = false) (hr : r = opM (a2S d o) o ∨ (r.2.2 = false ∧ (opM (a2S d o) o).2.2 = false)) (h2 : (!r.2.2 || !a1e (a3o d (a1D d o.2.1).toNat r.1)) = true) : a1j d o = (d, 0, false) := by
 rw [a1j, if_neg (by rw [h]; simp)]
 rcases hr with rfl | ⟨_, hr⟩
 ·rw [if_pos h2]
 ·rw [if_pos (by rw [hr]; rfl)]
theorem b2I {d : DbT} {o : OpT} {r : a0G × Int × Bool} (h : ((!a1e d || !a1s o) || decide (a1D d o.2.1 < 0)) = false) (hr : r = opM (a2S d o) o ∨ (r.2.2 = false ∧ (opM (a2S d o) o).2.2 = false)) (h2 : (!r.2.2 || !a1e (a3o d (a1D d o.2.1).toNat r.1)) = false) : a1j d o = (a3o d (a1D d o.2.1).toNat r.1, r.2.1, true) := by
 rw [a1j, if_neg (by rw [h]; simp)]
 rcases hr with rfl | ⟨hr, _⟩
 ·rw [if_neg (by rw [h2]; simp)]
 ·rw [hr] at h2; cases h2
theorem c6O {x : a0G} {o : OpT} (h : same x o = true) : (opI x o).1 = x := by
 by_cases h4 : o.1 = 4
 ·unfold opI
 rw [if_neg (by omega), if_neg (by omega), if_neg (by omega), if_neg (by omega), if_pos h4]
 ·have h1 : ¬ o.1 = 1 := fun e => a6r h (by omega)
 have h2 : ¬ o.1 = 2 := fun e => a6r h (by omega)
 have h3 : ¬ o.1 = 3 := fun e => a6r h (by omega)
 have h5 : ¬ o.1 = 5 := fun e => a6r h (by omega)
 unfold opI
 rw [if_neg h1, if_neg h2, if_neg h3, if_neg h5, if_neg h4, if_pos]
 have := b4D h h4 rfl
 unfold a4j
 simpa using this
theorem c2j {d : DbT} {i : Nat} (hi : i < d.2.2.1.length) : a3o d i (d.2.2.1.getD i default) = d := by
 have : d.2.2.1.set i (d.2.2.1.getD i default) = d.2.2.1 := by
 apply List.ext_getElem?
 intro j
 rw [List.getElem?_set]
 by_cases h : i = j
 ·subst h; simp [hi, List.getD]
 ·simp [h]
 unfold a3o
 rw [this]
theorem c6E {d : DbT} {o : OpT} (hb : a1h d ≤ 1099511627776) : KFn Tryz.prog 25 [.agg [(.dv [] (.str (d.1))), (.dv [] (.int .i64 (d.2.1))), (.dv [] (a0y (d.2.2.1))), (.dv [] (a0A (d.2.2.2)))], .agg [(.dv [] (.int .i64 (o.1))), (.dv [] (.str (o.2.1))), (.dv [] (.int .i64 (o.2.2.1.1))), (.dv [] (.int .i64 (o.2.2.1.2.1))), (.dv [] (.str (o.2.2.1.2.2))), (.dv [] (a0J (o.2.2.2.1))), (.dv [] (.str (o.2.2.2.2)))]] (.tup [(true, [(.dv [] (.str ((a1j d o).1.1))), (.dv [] (.int .i64 ((a1j d o).1.2.1))), (.key 90031), (.key 90900)]), (false, [(.dv [] (.int .i64 ((a1j d o).2.1)))]), (false, [(.dv [] (.bool ((a1j d o).2.2)))])]) [(90031, some (a0b false (a0y ((a1j d o).1.2.2.1)))), (90900, some (a0b false (a0A ((a1j d o).1.2.2.2))))] := by
 refine ⟨a0Q Tryz.func25 rfl Tryz.ntmps25 Tryz.results25 rfl (fun C => ?_)⟩
 refine yF 0 0 rfl rfl fun f0_0 => ?_
 refine yF 0 1 rfl rfl fun f0_1 => ?_
 refine yF 0 2 rfl rfl fun f0_2 => ?_
 refine yF 0 3 rfl rfl fun f0_3 => ?_
 refine yF 1 0 rfl rfl fun f1_0 => ?_
 refine yF 1 1 rfl rfl fun f1_1 => ?_
 refine yF 1 2 rfl rfl fun f1_2 => ?_
 refine yF 1 3 rfl rfl fun f1_3 => ?_
 refine yF 1 4 rfl rfl fun f1_4 => ?_
 refine yF 1 5 rfl rfl fun f1_5 => ?_
 refine yF 1 6 rfl rfl fun f1_6 => ?_
 iterate 9 refine z ?_
 refine zK 90000 Tryz.call23 ?_ (hf := a8W (x := d) (by omega))
 iterate 7 refine z ?_
 refine zC Tryz.call51 ?_ (hf := b4V (x := d) (n := o.2.1) )
 iterate 5 refine z ?_
 refine zC Tryz.call24 ?_ (hf := a9s (x := d) )
 iterate 3 refine z ?_
 refine a1P (a1t rfl rfl rfl rfl rfl) rfl rfl Tryz.call55 (c3H (x := o) ) (fun hg => (a0g (a0z rfl hg) (a0u (a0d a0c (a0d a0c (a0d a0c (a0d a0c (a0d a0c (a0d a0c (a0d a0c a0t)))))))) a0q)) rfl rfl ?_
 iterate 7 refine z ?_
 refine yQ rfl (fun c1 => ?_) fun c1 => ?_
 ·iterate 6 refine z ?_
 rw [b4v c1]
 refine a0h (σ' := ⟨[(4, .box 4 0), (5, .one (.dv [] (.int .i64 (0)))), (6, .one (.dv [] (.bool (false))))], [(4, 27, [(.dv [] (.str ((d).1))), (.dv [] (.int .i64 ((d).2.1))), (.key 90031), (.key 90900)])], [(90031, some (a0b false (a0y (d.2.2.1)))), (90900, some (a0b false (a0A (d.2.2.2))))]⟩) (a0e ⟨rfl, rfl, rfl, trivial⟩ ⟨rfl, trivial⟩ ⟨rfl, rfl, trivial⟩ rfl) ?_
 iterate 2 refine z ?_
 refine a1U (a0F hT rfl rfl rfl rfl) (a0m rfl) (a0m rfl) rfl rfl rfl ?_
 first | exact ⟨rfl, rfl⟩ | skip
 ·have hg := a9t c1
 have hlt : a0r (a0E o.2.1) d.2.2.1 0 < d.2.2.1.length := a8b d o.2.1
 have h0k : 0 ≤ a0r (a0E o.2.1) d.2.2.1 0 := hg.2.2
 have hsx := a5L (b0s hg.1) h0k hlt
 have hkn : (a0r (a0E o.2.1) d.2.2.1 0).toNat < d.2.2.1.length := by omega
 iterate 2 refine z ?_
 refine a7R (σ' := ⟨[(2, .box 2 0), (3, .box 3 0), (4, .box 4 0), (5, .one (.dv [] (.int .i64 (0)))), (6, .one (.dv [] (.bool (false)))), (7, .box 7 0), (8, .one (.dv [] (.int .i64 (a0r (a0E (o.2.1)) (d).2.2.1 0)))), (9, .box 9 0), (10, .one (.dv [] (.int .i64 ((opM ((d.2.2.1.getD (a0r (a0E o.2.1) d.2.2.1 0).toNat default)) (o)).2.1)))), (11, .one (.dv [] (.bool ((opM ((d.2.2.1.getD (a0r (a0E o.2.1) d.2.2.1 0).toNat default)) (o)).2.2))))], [(2, 27, [(.dv [] (.str (d.1))), (.dv [] (.int .i64 (d.2.1))), (.dv [] (a0y (d.2.2.1))), (.dv [] (a0A (d.2.2.2)))]), (3, 65, [(.dv [] (.int .i64 (o.1))), (.dv [] (.str (o.2.1))), (.dv [] (.int .i64 (o.2.2.1.1))), (.dv [] (.int .i64 (o.2.2.1.2.1))), (.dv [] (.str (o.2.2.1.2.2))), (.dv [] (a0J (o.2.2.2.1))), (.dv [] (.str (o.2.2.2.2)))]), (4, 27, [(.dv [] (.str (ByteArray.empty))), (.dv [] (.int .i64 (0))), .nil, .nil]), (7, 27, [(.dv [] (.str ((d).1))), (.dv [] (.int .i64 ((d).2.1))), (.key 90031), (.key 90900)]), (9, 77, [(.dv [] (.str ((opM ((d.2.2.1.getD (a0r (a0E o.2.1) d.2.2.1 0).toNat default)) (o)).1.1))), (.key 90501), (.dv [] (.int .i64 ((opM ((d.2.2.1.getD (a0r (a0E o.2.1) d.2.2.1 0).toNat default)) (o)).1.2.2)))])], [(90031, some (a0b false (a0y ((d).2.2.1)))), (90501, some (a0b false (a0x ((opM (d.2.2.1.getD (a0r (a0E o.2.1) d.2.2.1 0).toNat default) o).1.2.1)))), (90900, some (a0b false (a0A ((d).2.2.2))))]⟩) ?_ ?_
 ·refine a1N (oB := [2, 3, 4, 7]) (oK := [90031, 90900]) (by kernel_rfl) rfl rfl ?_
  refine zD 0 ?_
  refine zD 1 ?_
  refine zD 2 ?_
  refine zD 3 ?_
  refine zD 4 ?_
  refine zD 5 ?_
  refine a6l (A := [(11, 9, 77, _)]) hT ⟨⟨_, _, rfl⟩, rfl, trivial⟩ ?_
  refine a8y 81500 6 rfl (by kernel_rfl) rfl rfl rfl (vok hT ⟨⟨_, _, rfl⟩, rfl, trivial⟩ (by kernel_rfl) (by kernel_rfl)) (vok hT ⟨⟨_, _, rfl⟩, rfl, trivial⟩ (by kernel_rfl) (by kernel_rfl)) rfl Tryz.call56 (c9b (x := (d.2.2.1.getD (a0r (a0E o.2.1) d.2.2.1 0).toNat default)) (o := o) hsx hg.2.1) (a0g (a0a rfl) (a0u (a0d a0c (a0d a0c (a0d a0c a0t)))) (a0g (a0a rfl) (a0u (a0d a0c (a0d a0c (a0d a0c (a0d a0c (a0d a0c (a0d a0c (a0d a0c a0t)))))))) a0q)) rfl rfl rfl rfl rfl ?_
  refine a6d 7 rfl (by kernel_rfl) rfl rfl rfl (vok hT ⟨⟨_, _, rfl⟩, rfl, trivial⟩ (by kernel_rfl) (by kernel_rfl)) (vok hT ⟨⟨_, _, rfl⟩, rfl, trivial⟩ (by kernel_rfl) (by kernel_rfl)) (a0N (.inl rfl) (a0a rfl)) rfl rfl rfl rfl ?_
  refine a2C 8 rfl (by kernel_rfl) rfl rfl rfl rfl (vok hT ⟨⟨_, _, rfl⟩, rfl, trivial⟩ (by kernel_rfl) (by kernel_rfl)) (vok hT ⟨⟨_, _, rfl⟩, rfl, trivial⟩ (by kernel_rfl) (by kernel_rfl)) (a3F rfl (a0a rfl) rfl) rfl rfl ?_
  refine a2C 9 rfl (by kernel_rfl) rfl rfl rfl rfl (vok hT ⟨⟨_, _, rfl⟩, rfl, trivial⟩ (by kernel_rfl) (by kernel_rfl)) (vok hT ⟨⟨_, _, rfl⟩, rfl, trivial⟩ (by kernel_rfl) (by kernel_rfl)) (a3b rfl (a0a rfl) rfl) rfl rfl ?_
  refine a2C 10 rfl (by kernel_rfl) rfl rfl rfl rfl (vok hT ⟨⟨_, _, rfl⟩, rfl, trivial⟩ (by kernel_rfl) (by kernel_rfl)) (vok hT ⟨⟨_, _, rfl⟩, rfl, trivial⟩ (by kernel_rfl) (by kernel_rfl)) (a3b rfl (a0a rfl) rfl) rfl rfl ?_
  refine a6h (vok hT ⟨⟨_, _, rfl⟩, rfl, trivial⟩ (by kernel_rfl) (by kernel_rfl)) rfl rfl (by kernel_rfl) ?_
  dsimp only [a3k, a3d]
  refine a3C [12, 13, 14] rfl rfl (by kernel_rfl) ?_
  iterate 3 refine z ?_
  refine a1J ?_
  exact a2z (a0e ⟨rfl, rfl, rfl, rfl, rfl, rfl, rfl, rfl, rfl, rfl, trivial⟩ ⟨rfl, rfl, rfl, rfl, rfl, trivial⟩ ⟨rfl, rfl, rfl, trivial⟩ rfl)
 iterate 5 refine z ?_
 refine yO rfl rfl (a4U (i := (a0r (a0E (o.2.1)) (d).2.2.1 0).toNat) hT rfl rfl rfl (a0a rfl) rfl (a0a rfl) (by omega) (by show _ < (((d).2.2.1)).length; omega)) rfl ?_
 refine a8Q (js := [90501]) (cs := (d.2.2.1.set (a0r (a0E o.2.1) d.2.2.1 0).toNat (opM (d.2.2.1.getD (a0r (a0E o.2.1) d.2.2.1 0).toNat default) o).1).flatMap a1O) hT rfl rfl rfl rfl (a0a rfl) (a0a rfl) rfl rfl rfl rfl (a0o (a0R rfl) (a0o (a1f rfl) (a0o (a0R rfl) a1z rfl) rfl) rfl) (by decide) (by decide) rfl (by show _ ≤ List.length (((d).2.2.1).flatMap a1O); show (a0r (a0E o.2.1) d.2.2.1 0).toNat * 3 + 3 ≤ _; rw [a5a (enc := a1O) (sz := 3) (fun _ => rfl)]; omega) (c0k (enc := a1O) (sz := 3) (fun _ => rfl) hkn (opM (d.2.2.1.getD (a0r (a0E o.2.1) d.2.2.1 0).toNat default) o).1) ?_
 simp only [a0p, a0k, SV.kill, CV.kill, kk, Nat.reduceBEq]
 refine z ?_
 refine a0s ?_
 refine a0s ?_
 refine a0h (a4Z (k := 90031) (c' := a0b false (a0y (d.2.2.1.set (a0r (a0E o.2.1) d.2.2.1 0).toNat (opM (d.2.2.1.getD (a0r (a0E o.2.1) d.2.2.1 0).toNat default) o).1))) rfl (congrArg (fun m => KC.mk false 77 3 m ((d.2.2.1.set (a0r (a0E o.2.1) d.2.2.1 0).toNat (opM (d.2.2.1.getD (a0r (a0E o.2.1) d.2.2.1 0).toNat default) o).1).flatMap a1O)) (List.length_set).symm) rfl) ?_
 refine a0n ?_
 iterate 4 refine z ?_
 refine a1P (a1t rfl rfl rfl rfl rfl) rfl rfl Tryz.call24 (a9s (x := a3o d (a0r (a0E o.2.1) d.2.2.1 0).toNat (opM (d.2.2.1.getD (a0r (a0E o.2.1) d.2.2.1 0).toNat default) o).1)) (fun hg => (a0g (a0z rfl hg) (a0u (a0d a0c (a0d a0c (a0d (a0X rfl rfl) (a0d (a0X rfl rfl) a0t))))) a0q)) rfl rfl ?_
 iterate 3 refine z ?_
 refine yQ rfl (fun c2 => ?_) fun c2 => ?_
 ·refine a0s ?_
  refine a0h (σ' := ⟨[(2, .box 2 0), (4, .box 4 0), (5, .one (.dv [] (.int .i64 (0)))), (6, .one (.dv [] (.bool (false))))], [(2, 27, [(.dv [] (.str (d.1))), (.dv [] (.int .i64 (d.2.1))), (.dv [] (a0y (d.2.2.1))), (.dv [] (a0A (d.2.2.2)))]), (4, 27, [(.dv [] (.str (ByteArray.empty))), (.dv [] (.int .i64 (0))), .nil, .nil])], []⟩) (a0e ⟨rfl, rfl, rfl, rfl, trivial⟩ ⟨rfl, rfl, trivial⟩ trivial rfl) ?_
  refine a0n ?_
  refine z ?_
  refine zK 90000 Tryz.call23 ?_ (hf := a8W (x := d) (by omega))
  iterate 4 refine z ?_
  rw [b4d c1 (r := (opM (d.2.2.1.getD (a0r (a0E o.2.1) d.2.2.1 0).toNat default) o)) (.inl rfl) c2]
  refine a0h (σ' := ⟨[(4, .box 4 0), (5, .one (.dv [] (.int .i64 (0)))), (6, .one (.dv [] (.bool (false))))], [(4, 27, [(.dv [] (.str ((d).1))), (.dv [] (.int .i64 ((d).2.1))), (.key 90031), (.key 90900)])], [(90031, some (a0b false (a0y (d.2.2.1)))), (90900, some (a0b false (a0A (d.2.2.2))))]⟩) (a0e ⟨rfl, rfl, rfl, trivial⟩ ⟨rfl, trivial⟩ ⟨rfl, rfl, trivial⟩ rfl) ?_
  iterate 2 refine z ?_
  refine a1U (a0F hT rfl rfl rfl rfl) (a0m rfl) (a0m rfl) rfl rfl rfl ?_
  first | exact ⟨rfl, rfl⟩ | skip
 ·iterate 9 refine z ?_
  rw [b2I c1 (r := (opM (d.2.2.1.getD (a0r (a0E o.2.1) d.2.2.1 0).toNat default) o)) (.inl rfl) c2]
  refine a0h (σ' := ⟨[(4, .box 4 0), (5, .one (.dv [] (.int .i64 ((opM ((d.2.2.1.getD (a0r (a0E o.2.1) d.2.2.1 0).toNat default)) (o)).2.1)))), (6, .one (.dv [] (.bool (true))))], [(4, 27, [(.dv [] (.str ((d).1))), (.dv [] (.int .i64 ((d).2.1))), (.key 90031), (.key 90900)])], [(90031, some (a0b false (a0y (d.2.2.1.set (a0r (a0E o.2.1) d.2.2.1 0).toNat (opM (d.2.2.1.getD (a0r (a0E o.2.1) d.2.2.1 0).toNat default) o).1)))), (90900, some (a0b false (a0A (d.2.2.2))))]⟩) (a0e ⟨rfl, rfl, rfl, trivial⟩ ⟨rfl, trivial⟩ ⟨rfl, rfl, trivial⟩ rfl) ?_
  refine z ?_
  refine a1U (a0F hT rfl rfl rfl rfl) (a0m rfl) (a0m rfl) rfl rfl rfl ?_
  first | exact ⟨rfl, rfl⟩ | skip
theorem c3J {d : DbT} {o : OpT} (hb : a1h d ≤ 1099511627776) (hal : same (d.2.2.1.getD (a0r (a0E o.2.1) d.2.2.1 0).toNat default) o = true) : KFn Tryz.prog 42 [.agg [(.dv [] (.str (d.1))), (.dv [] (.int .i64 (d.2.1))), (.dv [] (a0y (d.2.2.1))), (.dv [] (a0A (d.2.2.2)))], .agg [(.dv [] (.int .i64 (o.1))), (.dv [] (.str (o.2.1))), (.dv [] (.int .i64 (o.2.2.1.1))), (.dv [] (.int .i64 (o.2.2.1.2.1))), (.dv [] (.str (o.2.2.1.2.2))), (.dv [] (a0J (o.2.2.2.1))), (.dv [] (.str (o.2.2.2.2)))]] (.tup [(true, [(.dv [] (.str ((a1j d o).1.1))), (.dv [] (.int .i64 ((a1j d o).1.2.1))), (.key 90031), (.key 90900)]), (false, [(.dv [] (.int .i64 ((a1j d o).2.1)))]), (false, [(.dv [] (.bool ((a1j d o).2.2)))])]) [(90031, some (a0b false (a0y ((a1j d o).1.2.2.1)))), (90900, some (a0b false (a0A ((a1j d o).1.2.2.2))))] := by
 refine ⟨a0Q Tryz.func42 rfl Tryz.ntmps42 Tryz.results42 rfl (fun C => ?_)⟩
 refine yF 0 0 rfl rfl fun f0_0 => ?_
 refine yF 0 1 rfl rfl fun f0_1 => ?_
 refine yF 0 2 rfl rfl fun f0_2 => ?_
 refine yF 0 3 rfl rfl fun f0_3 => ?_
 refine yF 1 0 rfl rfl fun f1_0 => ?_
 refine yF 1 1 rfl rfl fun f1_1 => ?_
 refine yF 1 2 rfl rfl fun f1_2 => ?_
 refine yF 1 3 rfl rfl fun f1_3 => ?_
 refine yF 1 4 rfl rfl fun f1_4 => ?_
 refine yF 1 5 rfl rfl fun f1_5 => ?_
 refine yF 1 6 rfl rfl fun f1_6 => ?_
 iterate 9 refine z ?_
 refine zK 90000 Tryz.call27 ?_ (hf := a6u (x := d) (by omega))
 iterate 7 refine z ?_
 refine zC Tryz.call75 ?_ (hf := b4y (x := d) (n := o.2.1) )
 iterate 5 refine z ?_
 refine zC Tryz.call41 ?_ (hf := a9l (x := d) )
 iterate 3 refine z ?_
 refine a1P (a1t rfl rfl rfl rfl rfl) rfl rfl Tryz.call78 (b4Y (x := o) ) (fun hg => (a0g (a0z rfl hg) (a0u (a0d a0c (a0d a0c (a0d a0c (a0d a0c (a0d a0c (a0d a0c (a0d a0c a0t)))))))) a0q)) rfl rfl ?_
 iterate 7 refine z ?_
 refine yQ rfl (fun c1 => ?_) fun c1 => ?_
 ·iterate 6 refine z ?_
 rw [b4v c1]
 refine a0h (σ' := ⟨[(4, .box 4 0), (5, .one (.dv [] (.int .i64 (0)))), (6, .one (.dv [] (.bool (false))))], [(4, 27, [(.dv [] (.str ((d).1))), (.dv [] (.int .i64 ((d).2.1))), (.key 90031), (.key 90900)])], [(90031, some (a0b false (a0y (d.2.2.1)))), (90900, some (a0b false (a0A (d.2.2.2))))]⟩) (a0e ⟨rfl, rfl, rfl, trivial⟩ ⟨rfl, trivial⟩ ⟨rfl, rfl, trivial⟩ rfl) ?_
 iterate 2 refine z ?_
 refine a1U (a0F hT rfl rfl rfl rfl) (a0m rfl) (a0m rfl) rfl rfl rfl ?_
 first | exact ⟨rfl, rfl⟩ | skip
 ·have hg := a9t c1
 have hlt : a0r (a0E o.2.1) d.2.2.1 0 < d.2.2.1.length := a8b d o.2.1
 have h0k : 0 ≤ a0r (a0E o.2.1) d.2.2.1 0 := hg.2.2
 have hsx := a5L (b0s hg.1) h0k hlt
 have hkn : (a0r (a0E o.2.1) d.2.2.1 0).toNat < d.2.2.1.length := by omega
 have hps := c2j hkn
 have hs1 := c6O hal
 iterate 2 refine z ?_
 refine a7R (σ' := ⟨[(2, .box 2 0), (3, .box 3 0), (4, .box 4 0), (5, .one (.dv [] (.int .i64 (0)))), (6, .one (.dv [] (.bool (false)))), (7, .box 7 0), (8, .one (.dv [] (.int .i64 (a0r (a0E (o.2.1)) (d).2.2.1 0)))), (9, .box 9 0), (10, .one (.dv [] (.int .i64 ((opI ((d.2.2.1.getD (a0r (a0E o.2.1) d.2.2.1 0).toNat default)) (o)).2.1)))), (11, .one (.dv [] (.bool ((opI ((d.2.2.1.getD (a0r (a0E o.2.1) d.2.2.1 0).toNat default)) (o)).2.2))))], [(2, 27, [(.dv [] (.str (d.1))), (.dv [] (.int .i64 (d.2.1))), (.dv [] (a0y (d.2.2.1))), (.dv [] (a0A (d.2.2.2)))]), (3, 65, [(.dv [] (.int .i64 (o.1))), (.dv [] (.str (o.2.1))), (.dv [] (.int .i64 (o.2.2.1.1))), (.dv [] (.int .i64 (o.2.2.1.2.1))), (.dv [] (.str (o.2.2.1.2.2))), (.dv [] (a0J (o.2.2.2.1))), (.dv [] (.str (o.2.2.2.2)))]), (4, 27, [(.dv [] (.str (ByteArray.empty))), (.dv [] (.int .i64 (0))), .nil, .nil]), (7, 27, [(.dv [] (.str ((d).1))), (.dv [] (.int .i64 ((d).2.1))), (.key 90031), (.key 90900)]), (9, 77, [(.dv [] (.str (((d.2.2.1.getD (a0r (a0E o.2.1) d.2.2.1 0).toNat default)).1))), (.nest 90031 (((a0r (a0E (o.2.1)) (d).2.2.1 0).toNat * 3 + 1)) (a0x ((d.2.2.1.getD (a0r (a0E o.2.1) d.2.2.1 0).toNat default).2.1))), (.dv [] (.int .i64 (((d.2.2.1.getD (a0r (a0E o.2.1) d.2.2.1 0).toNat default)).2.2)))])], [(90031, some (a0b false (a0y ((d).2.2.1)))), (90900, some (a0b false (a0A ((d).2.2.2))))]⟩) ?_ ?_
 ·refine a1N (oB := [2, 3, 4, 7]) (oK := [90031, 90900]) (by kernel_rfl) rfl rfl ?_
  refine zD 0 ?_
  refine zD 1 ?_
  refine zD 2 ?_
  refine a1q 3 rfl (by kernel_rfl) rfl rfl (a4U (i := (a0r (a0E (o.2.1)) (d).2.2.1 0).toNat) hT rfl rfl rfl (a0a rfl) rfl (a0a rfl) (by omega) (by show _ < (((d).2.2.1)).length; omega)) rfl rfl rfl rfl ?_
  refine a1q 4 rfl (by kernel_rfl) rfl rfl (b2T (ds := [.str ((d.2.2.1.getD (a0r (a0E o.2.1) d.2.2.1 0).toNat default).1), a0x ((d.2.2.1.getD (a0r (a0E o.2.1) d.2.2.1 0).toNat default).2.1), .int .i64 ((d.2.2.1.getD (a0r (a0E o.2.1) d.2.2.1 0).toNat default).2.2)]) hT rfl rfl (a0a rfl) rfl rfl (by decide) (b4M (enc := a1O) (sz := 3) (fun _ => rfl) hkn)) rfl rfl rfl rfl ?_
  refine zD 5 ?_
  refine a6l (A := [(11, 9, 77, _)]) hT ⟨⟨_, _, rfl⟩, rfl, trivial⟩ ?_
  refine c1R 6 rfl (by kernel_rfl) rfl rfl rfl (vok hT ⟨⟨_, _, rfl⟩, rfl, trivial⟩ (by kernel_rfl) (by kernel_rfl)) (vok hT ⟨⟨_, _, rfl⟩, rfl, trivial⟩ (by kernel_rfl) (by kernel_rfl)) rfl rfl Tryz.call79 (c2u (x := (d.2.2.1.getD (a0r (a0E o.2.1) d.2.2.1 0).toNat default)) (o := o) hsx hg.2.1 hal) (a0a rfl) a0c a9N a0c (a0g (a0a rfl) (a0u (a0d a0c (a0d a0c (a0d a0c (a0d a0c (a0d a0c (a0d a0c (a0d a0c a0t)))))))) a0q) rfl rfl rfl rfl rfl rfl rfl ?_
  refine a6d 7 rfl (by kernel_rfl) rfl rfl rfl (vok hT ⟨⟨_, _, rfl⟩, rfl, trivial⟩ (by kernel_rfl) (by kernel_rfl)) (vok hT ⟨⟨_, _, rfl⟩, rfl, trivial⟩ (by kernel_rfl) (by kernel_rfl)) (a0N (.inl rfl) (a0a rfl)) rfl rfl rfl rfl ?_
  refine a2C 8 rfl (by kernel_rfl) rfl rfl rfl rfl (vok hT ⟨⟨_, _, rfl⟩, rfl, trivial⟩ (by kernel_rfl) (by kernel_rfl)) (vok hT ⟨⟨_, _, rfl⟩, rfl, trivial⟩ (by kernel_rfl) (by kernel_rfl)) (a3F rfl (a0a rfl) rfl) rfl rfl ?_
  refine a2C 9 rfl (by kernel_rfl) rfl rfl rfl rfl (vok hT ⟨⟨_, _, rfl⟩, rfl, trivial⟩ (by kernel_rfl) (by kernel_rfl)) (vok hT ⟨⟨_, _, rfl⟩, rfl, trivial⟩ (by kernel_rfl) (by kernel_rfl)) (a3b rfl (a0a rfl) rfl) rfl rfl ?_
  refine a2C 10 rfl (by kernel_rfl) rfl rfl rfl rfl (vok hT ⟨⟨_, _, rfl⟩, rfl, trivial⟩ (by kernel_rfl) (by kernel_rfl)) (vok hT ⟨⟨_, _, rfl⟩, rfl, trivial⟩ (by kernel_rfl) (by kernel_rfl)) (a3b rfl (a0a rfl) rfl) rfl rfl ?_
  refine a6h (vok hT ⟨⟨_, _, rfl⟩, rfl, trivial⟩ (by kernel_rfl) (by kernel_rfl)) rfl rfl (by kernel_rfl) ?_
  dsimp only [a3k, a3d]
  refine a3C [12, 13, 14] rfl rfl (by kernel_rfl) ?_
  iterate 3 refine z ?_
  refine a1J ?_
  exact a2z (a0e ⟨rfl, rfl, rfl, rfl, rfl, rfl, rfl, rfl, rfl, rfl, trivial⟩ ⟨rfl, rfl, rfl, rfl, rfl, trivial⟩ ⟨rfl, rfl, trivial⟩ rfl)
 iterate 5 refine z ?_
 refine yO rfl rfl (a4U (i := (a0r (a0E (o.2.1)) (d).2.2.1 0).toNat) hT rfl rfl rfl (a0a rfl) rfl (a0a rfl) (by omega) (by show _ < (((d).2.2.1)).length; omega)) rfl ?_
 refine c7B (ds := [.str ((d.2.2.1.getD (a0r (a0E o.2.1) d.2.2.1 0).toNat default).1), a0x ((d.2.2.1.getD (a0r (a0E o.2.1) d.2.2.1 0).toNat default).2.1), .int .i64 ((d.2.2.1.getD (a0r (a0E o.2.1) d.2.2.1 0).toNat default).2.2)]) hT rfl rfl rfl rfl (a0a rfl) (a0a rfl) rfl rfl (b4M (enc := a1O) (sz := 3) (fun _ => rfl) hkn) (b5X (enc := a1O) (sz := 3) (fun _ => rfl) hkn) ?_
 simp only [a0p, a0k, SV.kill, CV.kill, kk, Nat.reduceBEq]
 iterate 7 refine z ?_
 refine a1P (a1t rfl rfl rfl rfl rfl) rfl rfl Tryz.call41 (a9l (x := d)) (fun hg => (a0g (a0z rfl hg) (a0u (a0d a0c (a0d a0c (a0d (a0X rfl rfl) (a0d (a0X rfl rfl) a0t))))) a0q)) rfl rfl ?_
 iterate 3 refine z ?_
 refine yQ rfl (fun c2 => ?_) fun c2 => ?_
 ·refine a0s ?_
  refine a0h (σ' := ⟨[(2, .box 2 0), (4, .box 4 0), (5, .one (.dv [] (.int .i64 (0)))), (6, .one (.dv [] (.bool (false))))], [(2, 27, [(.dv [] (.str (d.1))), (.dv [] (.int .i64 (d.2.1))), (.dv [] (a0y (d.2.2.1))), (.dv [] (a0A (d.2.2.2)))]), (4, 27, [(.dv [] (.str (ByteArray.empty))), (.dv [] (.int .i64 (0))), .nil, .nil])], []⟩) (a0e ⟨rfl, rfl, rfl, rfl, trivial⟩ ⟨rfl, rfl, trivial⟩ trivial rfl) ?_
  refine a0n ?_
  refine z ?_
  refine zK 90000 Tryz.call27 ?_ (hf := a6u (x := d) (by omega))
  iterate 4 refine z ?_
  rw [b4d c1 (b1N (d.2.2.1.getD (a0r (a0E o.2.1) d.2.2.1 0).toNat default) o) (by rw [hs1]; show (_ || !a1e (a3o d (a0r (a0E o.2.1) d.2.2.1 0).toNat (d.2.2.1.getD (a0r (a0E o.2.1) d.2.2.1 0).toNat default))) = true; rw [hps]; exact c2)]
  refine a0h (σ' := ⟨[(4, .box 4 0), (5, .one (.dv [] (.int .i64 (0)))), (6, .one (.dv [] (.bool (false))))], [(4, 27, [(.dv [] (.str ((d).1))), (.dv [] (.int .i64 ((d).2.1))), (.key 90031), (.key 90900)])], [(90031, some (a0b false (a0y (d.2.2.1)))), (90900, some (a0b false (a0A (d.2.2.2))))]⟩) (a0e ⟨rfl, rfl, rfl, trivial⟩ ⟨rfl, trivial⟩ ⟨rfl, rfl, trivial⟩ rfl) ?_
  iterate 2 refine z ?_
  refine a1U (a0F hT rfl rfl rfl rfl) (a0m rfl) (a0m rfl) rfl rfl rfl ?_
  first | exact ⟨rfl, rfl⟩ | skip
 ·iterate 9 refine z ?_
  have hfin : a1j d o = (d, (opI (d.2.2.1.getD (a0r (a0E o.2.1) d.2.2.1 0).toNat default) o).2.1, true) := by rw [b2I c1 (b1N (d.2.2.1.getD (a0r (a0E o.2.1) d.2.2.1 0).toNat default) o) (by rw [hs1]; show (_ || !a1e (a3o d (a0r (a0E o.2.1) d.2.2.1 0).toNat (d.2.2.1.getD (a0r (a0E o.2.1) d.2.2.1 0).toNat default))) = false; rw [hps]; exact c2), hs1]; show (a3o d (a0r (a0E o.2.1) d.2.2.1 0).toNat (d.2.2.1.getD (a0r (a0E o.2.1) d.2.2.1 0).toNat default), _, _) = _; rw [hps]
  rw [hfin]
  refine a0h (σ' := ⟨[(4, .box 4 0), (5, .one (.dv [] (.int .i64 ((opI ((d.2.2.1.getD (a0r (a0E o.2.1) d.2.2.1 0).toNat default)) (o)).2.1)))), (6, .one (.dv [] (.bool (true))))], [(4, 27, [(.dv [] (.str ((d).1))), (.dv [] (.int .i64 ((d).2.1))), (.key 90031), (.key 90900)])], [(90031, some (a0b false (a0y (d.2.2.1)))), (90900, some (a0b false (a0A (d.2.2.2))))]⟩) (a0e ⟨rfl, rfl, rfl, trivial⟩ ⟨rfl, trivial⟩ ⟨rfl, rfl, trivial⟩ rfl) ?_
  refine z ?_
  refine a1U (a0F hT rfl rfl rfl rfl) (a0m rfl) (a0m rfl) rfl rfl rfl ?_
  first | exact ⟨rfl, rfl⟩ | skip
theorem c2O {d : DbT} {o : OpT} (hb : a1h d ≤ 1099511627776) (hal : same (d.2.2.1.getD (a0r (a0E o.2.1) d.2.2.1 0).toNat default) o = false) : KFn Tryz.prog 42 [.agg [(.dv [] (.str (d.1))), (.dv [] (.int .i64 (d.2.1))), (.dv [] (a0y (d.2.2.1))), (.dv [] (a0A (d.2.2.2)))], .agg [(.dv [] (.int .i64 (o.1))), (.dv [] (.str (o.2.1))), (.dv [] (.int .i64 (o.2.2.1.1))), (.dv [] (.int .i64 (o.2.2.1.2.1))), (.dv [] (.str (o.2.2.1.2.2))), (.dv [] (a0J (o.2.2.2.1))), (.dv [] (.str (o.2.2.2.2)))]] (.tup [(true, [(.dv [] (.str ((a1j d o).1.1))), (.dv [] (.int .i64 ((a1j d o).1.2.1))), (.key 90031), (.key 90900)]), (false, [(.dv [] (.int .i64 ((a1j d o).2.1)))]), (false, [(.dv [] (.bool ((a1j d o).2.2)))])]) [(90031, some (a0b false (a0y ((a1j d o).1.2.2.1)))), (90900, some (a0b false (a0A ((a1j d o).1.2.2.2))))] := by
 refine ⟨a0Q Tryz.func42 rfl Tryz.ntmps42 Tryz.results42 rfl (fun C => ?_)⟩
 refine yF 0 0 rfl rfl fun f0_0 => ?_
 refine yF 0 1 rfl rfl fun f0_1 => ?_
 refine yF 0 2 rfl rfl fun f0_2 => ?_
 refine yF 0 3 rfl rfl fun f0_3 => ?_
 refine yF 1 0 rfl rfl fun f1_0 => ?_
 refine yF 1 1 rfl rfl fun f1_1 => ?_
 refine yF 1 2 rfl rfl fun f1_2 => ?_
 refine yF 1 3 rfl rfl fun f1_3 => ?_
 refine yF 1 4 rfl rfl fun f1_4 => ?_
 refine yF 1 5 rfl rfl fun f1_5 => ?_
 refine yF 1 6 rfl rfl fun f1_6 => ?_
 iterate 9 refine z ?_
 refine zK 90000 Tryz.call27 ?_ (hf := a6u (x := d) (by omega))
 iterate 7 refine z ?_
 refine zC Tryz.call75 ?_ (hf := b4y (x := d) (n := o.2.1) )
 iterate 5 refine z ?_
 refine zC Tryz.call41 ?_ (hf := a9l (x := d) )
 iterate 3 refine z ?_
 refine a1P (a1t rfl rfl rfl rfl rfl) rfl rfl Tryz.call78 (b4Y (x := o) ) (fun hg => (a0g (a0z rfl hg) (a0u (a0d a0c (a0d a0c (a0d a0c (a0d a0c (a0d a0c (a0d a0c (a0d a0c a0t)))))))) a0q)) rfl rfl ?_
 iterate 7 refine z ?_
 refine yQ rfl (fun c1 => ?_) fun c1 => ?_
 ·iterate 6 refine z ?_
 rw [b4v c1]
 refine a0h (σ' := ⟨[(4, .box 4 0), (5, .one (.dv [] (.int .i64 (0)))), (6, .one (.dv [] (.bool (false))))], [(4, 27, [(.dv [] (.str ((d).1))), (.dv [] (.int .i64 ((d).2.1))), (.key 90031), (.key 90900)])], [(90031, some (a0b false (a0y (d.2.2.1)))), (90900, some (a0b false (a0A (d.2.2.2))))]⟩) (a0e ⟨rfl, rfl, rfl, trivial⟩ ⟨rfl, trivial⟩ ⟨rfl, rfl, trivial⟩ rfl) ?_
 iterate 2 refine z ?_
 refine a1U (a0F hT rfl rfl rfl rfl) (a0m rfl) (a0m rfl) rfl rfl rfl ?_
 first | exact ⟨rfl, rfl⟩ | skip
 ·have hg := a9t c1
 have hlt : a0r (a0E o.2.1) d.2.2.1 0 < d.2.2.1.length := a8b d o.2.1
 have h0k : 0 ≤ a0r (a0E o.2.1) d.2.2.1 0 := hg.2.2
 have hsx := a5L (b0s hg.1) h0k hlt
 have hkn : (a0r (a0E o.2.1) d.2.2.1 0).toNat < d.2.2.1.length := by omega
 iterate 2 refine z ?_
 refine a7R (σ' := ⟨[(2, .box 2 0), (3, .box 3 0), (4, .box 4 0), (5, .one (.dv [] (.int .i64 (0)))), (6, .one (.dv [] (.bool (false)))), (7, .box 7 0), (8, .one (.dv [] (.int .i64 (a0r (a0E (o.2.1)) (d).2.2.1 0)))), (9, .box 9 0), (10, .one (.dv [] (.int .i64 ((opI ((d.2.2.1.getD (a0r (a0E o.2.1) d.2.2.1 0).toNat default)) (o)).2.1)))), (11, .one (.dv [] (.bool ((opI ((d.2.2.1.getD (a0r (a0E o.2.1) d.2.2.1 0).toNat default)) (o)).2.2))))], [(2, 27, [(.dv [] (.str (d.1))), (.dv [] (.int .i64 (d.2.1))), (.dv [] (a0y (d.2.2.1))), (.dv [] (a0A (d.2.2.2)))]), (3, 65, [(.dv [] (.int .i64 (o.1))), (.dv [] (.str (o.2.1))), (.dv [] (.int .i64 (o.2.2.1.1))), (.dv [] (.int .i64 (o.2.2.1.2.1))), (.dv [] (.str (o.2.2.1.2.2))), (.dv [] (a0J (o.2.2.2.1))), (.dv [] (.str (o.2.2.2.2)))]), (4, 27, [(.dv [] (.str (ByteArray.empty))), (.dv [] (.int .i64 (0))), .nil, .nil]), (7, 27, [(.dv [] (.str ((d).1))), (.dv [] (.int .i64 ((d).2.1))), (.key 90031), (.key 90900)]), (9, 77, [(.dv [] (.str ((opI ((d.2.2.1.getD (a0r (a0E o.2.1) d.2.2.1 0).toNat default)) (o)).1.1))), (.key 90501), (.dv [] (.int .i64 ((opI ((d.2.2.1.getD (a0r (a0E o.2.1) d.2.2.1 0).toNat default)) (o)).1.2.2)))])], [(90031, some (a0b false (a0y ((d).2.2.1)))), (90501, some (a0b false (a0x ((opI (d.2.2.1.getD (a0r (a0E o.2.1) d.2.2.1 0).toNat default) o).1.2.1)))), (90900, some (a0b false (a0A ((d).2.2.2))))]⟩) ?_ ?_
 ·refine a1N (oB := [2, 3, 4, 7]) (oK := [90031, 90900]) (by kernel_rfl) rfl rfl ?_
  refine zD 0 ?_
  refine zD 1 ?_
  refine zD 2 ?_
  refine a1q 3 rfl (by kernel_rfl) rfl rfl (a4U (i := (a0r (a0E (o.2.1)) (d).2.2.1 0).toNat) hT rfl rfl rfl (a0a rfl) rfl (a0a rfl) (by omega) (by show _ < (((d).2.2.1)).length; omega)) rfl rfl rfl rfl ?_
  refine a1q 4 rfl (by kernel_rfl) rfl rfl (b2T (ds := [.str ((d.2.2.1.getD (a0r (a0E o.2.1) d.2.2.1 0).toNat default).1), a0x ((d.2.2.1.getD (a0r (a0E o.2.1) d.2.2.1 0).toNat default).2.1), .int .i64 ((d.2.2.1.getD (a0r (a0E o.2.1) d.2.2.1 0).toNat default).2.2)]) hT rfl rfl (a0a rfl) rfl rfl (by decide) (b4M (enc := a1O) (sz := 3) (fun _ => rfl) hkn)) rfl rfl rfl rfl ?_
  refine zD 5 ?_
  refine a6l (A := [(11, 9, 77, _)]) hT ⟨⟨_, _, rfl⟩, rfl, trivial⟩ ?_
  refine a8y 81500 6 rfl (by kernel_rfl) rfl rfl rfl (vok hT ⟨⟨_, _, rfl⟩, rfl, trivial⟩ (by kernel_rfl) (by kernel_rfl)) (vok hT ⟨⟨_, _, rfl⟩, rfl, trivial⟩ (by kernel_rfl) (by kernel_rfl)) rfl Tryz.call79 (c4s (x := (d.2.2.1.getD (a0r (a0E o.2.1) d.2.2.1 0).toNat default)) (o := o) hsx hg.2.1 hal) (a0g (a0a rfl) (a0u (a0d a0c (a0d a9N (a0d a0c a0t)))) (a0g (a0a rfl) (a0u (a0d a0c (a0d a0c (a0d a0c (a0d a0c (a0d a0c (a0d a0c (a0d a0c a0t)))))))) a0q)) rfl rfl rfl rfl rfl ?_
  refine a6d 7 rfl (by kernel_rfl) rfl rfl rfl (vok hT ⟨⟨_, _, rfl⟩, rfl, trivial⟩ (by kernel_rfl) (by kernel_rfl)) (vok hT ⟨⟨_, _, rfl⟩, rfl, trivial⟩ (by kernel_rfl) (by kernel_rfl)) (a0N (.inl rfl) (a0a rfl)) rfl rfl rfl rfl ?_
  refine a2C 8 rfl (by kernel_rfl) rfl rfl rfl rfl (vok hT ⟨⟨_, _, rfl⟩, rfl, trivial⟩ (by kernel_rfl) (by kernel_rfl)) (vok hT ⟨⟨_, _, rfl⟩, rfl, trivial⟩ (by kernel_rfl) (by kernel_rfl)) (a3F rfl (a0a rfl) rfl) rfl rfl ?_
  refine a2C 9 rfl (by kernel_rfl) rfl rfl rfl rfl (vok hT ⟨⟨_, _, rfl⟩, rfl, trivial⟩ (by kernel_rfl) (by kernel_rfl)) (vok hT ⟨⟨_, _, rfl⟩, rfl, trivial⟩ (by kernel_rfl) (by kernel_rfl)) (a3b rfl (a0a rfl) rfl) rfl rfl ?_
  refine a2C 10 rfl (by kernel_rfl) rfl rfl rfl rfl (vok hT ⟨⟨_, _, rfl⟩, rfl, trivial⟩ (by kernel_rfl) (by kernel_rfl)) (vok hT ⟨⟨_, _, rfl⟩, rfl, trivial⟩ (by kernel_rfl) (by kernel_rfl)) (a3b rfl (a0a rfl) rfl) rfl rfl ?_
  refine a6h (vok hT ⟨⟨_, _, rfl⟩, rfl, trivial⟩ (by kernel_rfl) (by kernel_rfl)) rfl rfl (by kernel_rfl) ?_
  dsimp only [a3k, a3d]
  refine a3C [12, 13, 14] rfl rfl (by kernel_rfl) ?_
  iterate 3 refine z ?_
  refine a1J ?_
  exact a2z (a0e ⟨rfl, rfl, rfl, rfl, rfl, rfl, rfl, rfl, rfl, rfl, trivial⟩ ⟨rfl, rfl, rfl, rfl, rfl, trivial⟩ ⟨rfl, rfl, rfl, trivial⟩ rfl)
 iterate 5 refine z ?_
 refine yO rfl rfl (a4U (i := (a0r (a0E (o.2.1)) (d).2.2.1 0).toNat) hT rfl rfl rfl (a0a rfl) rfl (a0a rfl) (by omega) (by show _ < (((d).2.2.1)).length; omega)) rfl ?_
 refine a8Q (js := [90501]) (cs := (d.2.2.1.set (a0r (a0E o.2.1) d.2.2.1 0).toNat (opI (d.2.2.1.getD (a0r (a0E o.2.1) d.2.2.1 0).toNat default) o).1).flatMap a1O) hT rfl rfl rfl rfl (a0a rfl) (a0a rfl) rfl rfl rfl rfl (a0o (a0R rfl) (a0o (a1f rfl) (a0o (a0R rfl) a1z rfl) rfl) rfl) (by decide) (by decide) rfl (by show _ ≤ List.length (((d).2.2.1).flatMap a1O); exact b5X (enc := a1O) (sz := 3) (fun _ => rfl) hkn) (c0k (enc := a1O) (sz := 3) (fun _ => rfl) hkn (opI (d.2.2.1.getD (a0r (a0E o.2.1) d.2.2.1 0).toNat default) o).1) ?_
 simp only [a0p, a0k, SV.kill, CV.kill, kk, Nat.reduceBEq]
 refine z ?_
 refine a0s ?_
 refine a0s ?_
 refine a0h (a4Z (k := 90031) (c' := a0b false (a0y (d.2.2.1.set (a0r (a0E o.2.1) d.2.2.1 0).toNat (opI (d.2.2.1.getD (a0r (a0E o.2.1) d.2.2.1 0).toNat default) o).1))) rfl (congrArg (fun m => KC.mk false 77 3 m ((d.2.2.1.set (a0r (a0E o.2.1) d.2.2.1 0).toNat (opI (d.2.2.1.getD (a0r (a0E o.2.1) d.2.2.1 0).toNat default) o).1).flatMap a1O)) (List.length_set).symm) rfl) ?_
 refine a0n ?_
 iterate 4 refine z ?_
 refine a1P (a1t rfl rfl rfl rfl rfl) rfl rfl Tryz.call41 (a9l (x := a3o d (a0r (a0E o.2.1) d.2.2.1 0).toNat (opI (d.2.2.1.getD (a0r (a0E o.2.1) d.2.2.1 0).toNat default) o).1)) (fun hg => (a0g (a0z rfl hg) (a0u (a0d a0c (a0d a0c (a0d (a0X rfl rfl) (a0d (a0X rfl rfl) a0t))))) a0q)) rfl rfl ?_
 iterate 3 refine z ?_
 refine yQ rfl (fun c2 => ?_) fun c2 => ?_
 ·refine a0s ?_
  refine a0h (σ' := ⟨[(2, .box 2 0), (4, .box 4 0), (5, .one (.dv [] (.int .i64 (0)))), (6, .one (.dv [] (.bool (false))))], [(2, 27, [(.dv [] (.str (d.1))), (.dv [] (.int .i64 (d.2.1))), (.dv [] (a0y (d.2.2.1))), (.dv [] (a0A (d.2.2.2)))]), (4, 27, [(.dv [] (.str (ByteArray.empty))), (.dv [] (.int .i64 (0))), .nil, .nil])], []⟩) (a0e ⟨rfl, rfl, rfl, rfl, trivial⟩ ⟨rfl, rfl, trivial⟩ trivial rfl) ?_
  refine a0n ?_
  refine z ?_
  refine zK 90000 Tryz.call27 ?_ (hf := a6u (x := d) (by omega))
  iterate 4 refine z ?_
  rw [b4d c1 (b1N (d.2.2.1.getD (a0r (a0E o.2.1) d.2.2.1 0).toNat default) o) c2]
  refine a0h (σ' := ⟨[(4, .box 4 0), (5, .one (.dv [] (.int .i64 (0)))), (6, .one (.dv [] (.bool (false))))], [(4, 27, [(.dv [] (.str ((d).1))), (.dv [] (.int .i64 ((d).2.1))), (.key 90031), (.key 90900)])], [(90031, some (a0b false (a0y (d.2.2.1)))), (90900, some (a0b false (a0A (d.2.2.2))))]⟩) (a0e ⟨rfl, rfl, rfl, trivial⟩ ⟨rfl, trivial⟩ ⟨rfl, rfl, trivial⟩ rfl) ?_
  iterate 2 refine z ?_
  refine a1U (a0F hT rfl rfl rfl rfl) (a0m rfl) (a0m rfl) rfl rfl rfl ?_
  first | exact ⟨rfl, rfl⟩ | skip
 ·iterate 9 refine z ?_
  rw [b2I c1 (b1N (d.2.2.1.getD (a0r (a0E o.2.1) d.2.2.1 0).toNat default) o) c2]
  refine a0h (σ' := ⟨[(4, .box 4 0), (5, .one (.dv [] (.int .i64 ((opI ((d.2.2.1.getD (a0r (a0E o.2.1) d.2.2.1 0).toNat default)) (o)).2.1)))), (6, .one (.dv [] (.bool (true))))], [(4, 27, [(.dv [] (.str ((d).1))), (.dv [] (.int .i64 ((d).2.1))), (.key 90031), (.key 90900)])], [(90031, some (a0b false (a0y (d.2.2.1.set (a0r (a0E o.2.1) d.2.2.1 0).toNat (opI (d.2.2.1.getD (a0r (a0E o.2.1) d.2.2.1 0).toNat default) o).1)))), (90900, some (a0b false (a0A (d.2.2.2))))]⟩) (a0e ⟨rfl, rfl, rfl, trivial⟩ ⟨rfl, trivial⟩ ⟨rfl, rfl, trivial⟩ rfl) ?_
  refine z ?_
  refine a1U (a0F hT rfl rfl rfl rfl) (a0m rfl) (a0m rfl) rfl rfl rfl ?_
  first | exact ⟨rfl, rfl⟩ | skip
theorem c6x {d : DbT} {o : OpT} (hb : a1h d ≤ 1099511627776) : KFn Tryz.prog 42 [.agg [(.dv [] (.str (d.1))), (.dv [] (.int .i64 (d.2.1))), (.dv [] (a0y (d.2.2.1))), (.dv [] (a0A (d.2.2.2)))], .agg [(.dv [] (.int .i64 (o.1))), (.dv [] (.str (o.2.1))), (.dv [] (.int .i64 (o.2.2.1.1))), (.dv [] (.int .i64 (o.2.2.1.2.1))), (.dv [] (.str (o.2.2.1.2.2))), (.dv [] (a0J (o.2.2.2.1))), (.dv [] (.str (o.2.2.2.2)))]] (.tup [(true, [.dv [] (.str ((a1j d o).1.1)), .dv [] (.int .i64 ((a1j d o).1.2.1)), .key 90031, .key 90900]), (false, [.dv [] (.int .i64 ((a1j d o).2.1))]), (false, [.dv [] (.bool ((a1j d o).2.2))])]) [(90031, some (a0b false (a0y ((a1j d o).1.2.2.1)))), (90900, some (a0b false (a0A ((a1j d o).1.2.2.2))))] := by
 by_cases h : same (d.2.2.1.getD (a0r (a0E o.2.1) d.2.2.1 0).toNat default) o = true
 ·exact c3J hb h
 ·exact c2O hb (by simpa using h)
theorem b8Z {α : Type} [Inhabited α] {w : α → Nat} {y : α} : ∀ (l : List α) (i : Nat), a0V w (l.set i y) ≤ a0V w l + w y
 | [], i => by simp [a0V]
 | x :: l, 0 => by simp [a0V]; omega
 | x :: l, i + 1 => by have := b8Z (w := w) (y := y) l i; simp [a0V] at this ⊢; omega
theorem c0H (d : DbT) (o : OpT) : a1h (a1j d o).1 ≤ a1h d + 1000000 := by
 unfold a1j
 split
 ·show a1h d ≤ _; omega
 ·rename_i h1
 split
 ·show a1h d ≤ _; omega
 ·rename_i h2
  have h1 : ((!a1e d || !a1s o) || decide (a1D d o.2.1 < 0)) = false := by simpa using h1
  have hg := a9t h1
  have hlt := a8b d o.2.1
  have h2 : (!(opM (a2S d o) o).2.2 || !a1e (a3o d (a1D d o.2.1).toNat (opM (a2S d o) o).1)) = false := by simpa using h2
  have hd : a1e (a3o d (a1D d o.2.1).toNat (opM (a2S d o) o).1) = true := by
  simp only [Bool.or_eq_false_iff, Bool.not_eq_false'] at h2
  exact h2.2
  have hs := a5L (i := a1D d o.2.1) (b0s hd) hg.2.2 (by show _ < (((d.2.2.1.set _ _).length : Nat) : Int); rw [List.length_set]; exact hlt)
  have e : (a3o d (a1D d o.2.1).toNat (opM (a2S d o) o).1).2.2.1.getD (a1D d o.2.1).toNat default = (opM (a2S d o) o).1 := by
  have hl : (a1D d o.2.1).toNat < d.2.2.1.length := by omega
  simp [a3o, List.getD, hl]
  rw [e] at hs
  have hw := a6C hs
  have h3 := b8Z (w := a1g) (y := (opM (a2S d o) o).1) d.2.2.1 (a1D d o.2.1).toNat
  have h4 : a1h d = d.1.size + a2e a1g d.2.2.1 + a2e a2Y d.2.2.2 := rfl
  have h5 : a1h (a3o d (a1D d o.2.1).toNat (opM (a2S d o) o).1) = d.1.size + a2e a1g (d.2.2.1.set (a1D d o.2.1).toNat (opM (a2S d o) o).1) + a2e a2Y d.2.2.2 := rfl
  have h6 : a2e a1g d.2.2.1 = d.2.2.1.length + a0V a1g d.2.2.1 := rfl
  have h7 : a2e a1g (d.2.2.1.set (a1D d o.2.1).toNat (opM (a2S d o) o).1) = (d.2.2.1.set (a1D d o.2.1).toNat (opM (a2S d o) o).1).length + a0V a1g (d.2.2.1.set (a1D d o.2.1).toNat (opM (a2S d o) o).1) := rfl
  rw [List.length_set] at h7
  show a1h (a3o d (a1D d o.2.1).toNat (opM (a2S d o) o).1) ≤ _
  omega
def a1X : DbT → List OpT → Option (DbT × List Int)
 | c, [] => some (c, [])
 | c, o :: os => if (a1j c o).2.2 = true then (a1X (a1j c o).1 os).map fun r => (r.1, (a1j c o).2.1 :: r.2) else none
def b6x (d : DbT) : Option (DbT × List Int) → DbT × List Int × Bool
 | none => (d, [], false)
 | some r => (r.1, r.2, true)
def a1F (d : DbT) (l : List OpT) : DbT × List Int × Bool := if (!a1e d || decide ((6 : Int) < (l.length : Int))) = true then (d, [], false) else b6x d (a1X d l)
def a4M (acc : List Int) (x : Option (DbT × List Int)) : Option (DbT × List Int) := x.map fun r => (r.1, acc ++ r.2)
theorem b2M {d : DbT} {l : List OpT} (h : (!a1e d || decide ((6 : Int) < (l.length : Int))) = false) : l.length ≤ 6 := by
 simp only [Bool.or_eq_false_iff, decide_eq_false_iff_not] at h
 omega
theorem b8u {l : List OpT} {n : Nat} (h : n < l.length) : l.drop n = l.getD (n : Int).toNat default :: l.drop (n + 1) := by
 rw [List.drop_eq_getElem_cons h]
 simp [List.getD, List.getElem?_eq_getElem h]
theorem c8S {l : List OpT} {n : Nat} {c : DbT} (h : n < l.length) (hk : (!(a1j c (l.getD (n : Int).toNat default)).2.2) = true) : a1X c (l.drop n) = none := by
 rw [b8u h, a1X, if_neg (by simpa using hk)]
theorem b5V {l : List OpT} {n : Nat} {c : DbT} {acc : List Int} (h : n < l.length) (hk : (!(a1j c (l.getD (n : Int).toNat default)).2.2) = false) : a4M acc (a1X c (l.drop n)) = a4M (acc ++ [(a1j c (l.getD (n : Int).toNat default)).2.1]) (a1X (a1j c (l.getD (n : Int).toNat default)).1 (l.drop (n + 1))) := by
 rw [b8u h, a1X, if_pos (by simpa using hk)]
 unfold a4M
 cases a1X (a1j c (l.getD (n : Int).toNat default)).1 (l.drop (n + 1)) <;> simp
theorem b5E {d : DbT} {l : List OpT} (h : (!a1e d || decide ((6 : Int) < (l.length : Int))) = true) : a1F d l = (d, [], false) := by rw [a1F, if_pos h]
theorem b9I {d c : DbT} {l : List OpT} {n : Nat} {acc : List Int} (h : (!a1e d || decide ((6 : Int) < (l.length : Int))) = false) (hi : a1X d l = a4M acc (a1X c (l.drop n))) (hn : n < l.length) (hk : (!(a1j c (l.getD (n : Int).toNat default)).2.2) = true) : a1F d l = (d, [], false) := by
 rw [a1F, if_neg (by rw [h]; simp), hi, c8S hn hk]; rfl
theorem b8L {d c : DbT} {l : List OpT} {n : Nat} {acc : List Int} (h : (!a1e d || decide ((6 : Int) < (l.length : Int))) = false) (hi : a1X d l = a4M acc (a1X c (l.drop n))) (hn : n = l.length) : a1F d l = (c, acc, true) := by
 rw [a1F, if_neg (by rw [h]; simp), hi, hn, List.drop_length]
 simp [a1X, a4M, b6x]
theorem b6h {d : DbT} {l : List OpT} (hb : a1h d ≤ 549755813888) : KFn Tryz.prog 20 [.agg [(.dv [] (.str (d.1))), (.dv [] (.int .i64 (d.2.1))), (.dv [] (a0y (d.2.2.1))), (.dv [] (a0A (d.2.2.2)))], .one (.dv [] (a2b (l)))] (.tup [(true, [(.dv [] (.str ((a1F d l).1.1))), (.dv [] (.int .i64 ((a1F d l).1.2.1))), (.key 90031), (.key 90900)]), (false, [(.key 95000)]), (false, [(.dv [] (.bool ((a1F d l).2.2)))])]) [(90031, some (a0b false (a0y ((a1F d l).1.2.2.1)))), (90900, some (a0b false (a0A ((a1F d l).1.2.2.2)))), (95000, some (a0b false (a4X ((a1F d l).2.1))))] := by
 refine ⟨a0Q Tryz.func20 rfl Tryz.ntmps20 Tryz.results20 rfl (fun C => ?_)⟩
 refine yF 0 0 rfl rfl fun f0_0 => ?_
 refine yF 0 1 rfl rfl fun f0_1 => ?_
 refine yF 0 2 rfl rfl fun f0_2 => ?_
 refine yF 0 3 rfl rfl fun f0_3 => ?_
 refine a1k (x := .tmp 1) (a0a rfl) fun f1 => ?_
 iterate 8 refine z ?_
 refine zK 90000 Tryz.call27 ?_ (hf := a6u (x := d) (by omega))
 iterate 4 refine z ?_
 refine a2H (k := 95000) hT rfl rfl rfl rfl rfl rfl rfl rfl ?_
 iterate 5 refine z ?_
 refine zC Tryz.call41 ?_ (hf := a9l (x := d) )
 iterate 7 refine z ?_
 refine yQ rfl (fun c1 => ?_) fun c1 => ?_
 ·iterate 7 refine z ?_
 rw [b5E c1]
 refine a0h (σ' := ⟨[(4, .box 4 0), (5, .one (.key 95000)), (6, .one (.dv [] (.bool (false))))], [(4, 27, [(.dv [] (.str ((d).1))), (.dv [] (.int .i64 ((d).2.1))), (.key 90031), (.key 90900)])], [(90031, some (a0b false (a0y (d.2.2.1)))), (90900, some (a0b false (a0A (d.2.2.2)))), (95000, some (a0b false (a4X ([]))))]⟩) (a0e ⟨rfl, rfl, rfl, trivial⟩ ⟨rfl, trivial⟩ ⟨rfl, rfl, rfl, trivial⟩ rfl) ?_
 iterate 2 refine z ?_
 refine a1U (a0F hT rfl rfl rfl rfl) (a0m rfl) (a0m rfl) rfl rfl rfl ?_
 first | exact ⟨rfl, rfl⟩ | skip
 ·have hl6 := b2M c1
 iterate 9 refine z ?_
 refine a1l (ι := Nat × DbT × List Int) (fun zz => ⟨[(2, .box 2 0), (4, .box 4 0), (7, .box 7 0), (8, .one (.key 95000)), (27, .one (.dv [] (a2b (l)))), (28, .one (.dv [] (.int .i64 ((((l)).length : Int))))), (29, .one (.dv [] (.int .i64 ((zz.1 : Int)))))], [(2, 27, [(.dv [] (.str (d.1))), (.dv [] (.int .i64 (d.2.1))), (.dv [] (a0y (d.2.2.1))), (.dv [] (a0A (d.2.2.2)))]), (4, 27, [(.dv [] (.str (ByteArray.empty))), (.dv [] (.int .i64 (0))), .nil, .nil]), (7, 27, [(.dv [] (.str (zz.2.1.1))), (.dv [] (.int .i64 (zz.2.1.2.1))), (.key 90031), (.key 90900)])], [(90031, some (a0b false (.sl 77 3 (zz.2.1.2.2.1.length) (zz.2.1.2.2.1.flatMap a1O)))), (90900, some (a0b false (.sl 79 2 (zz.2.1.2.2.2.length) (zz.2.1.2.2.2.flatMap a2y)))), (95000, some (a0b false (.sl 3 1 (zz.2.2.length) (zz.2.2.flatMap a4c))))]⟩) (fun zz => zz.1 ≤ l.length ∧ a1X d l = a4M zz.2.2 (a1X zz.2.1 (l.drop zz.1)) ∧ a1h zz.2.1 ≤ a1h d + 1000000 * zz.1 ∧ zz.2.2.length = zz.1) (fun zz => l.length - zz.1) ((0, d, [])) ?_ (a0e ⟨rfl, rfl, rfl, rfl, rfl, rfl, rfl, trivial⟩ ⟨rfl, rfl, rfl, trivial⟩ ⟨rfl, rfl, rfl, trivial⟩ rfl) (fun zz hx => ?_)
 ·exact ⟨Nat.zero_le _, by simp [a4M], by dsimp only; omega, rfl⟩
 obtain ⟨n, c, acc⟩ := zz
 replace hx : n ≤ l.length ∧ a1X d l = a4M acc (a1X c (l.drop n)) ∧ a1h c ≤ a1h d + 1000000 * n ∧ acc.length = n := hx
 obtain ⟨hn, hi, hw, hal⟩ := hx
 show Ok _ _ _ _ _ (⟨[(2, .box 2 0), (4, .box 4 0), (7, .box 7 0), (8, .one (.key 95000)), (27, .one (.dv [] (a2b (l)))), (28, .one (.dv [] (.int .i64 ((((l)).length : Int))))), (29, .one (.dv [] (.int .i64 ((n : Int)))))], [(2, 27, [(.dv [] (.str (d.1))), (.dv [] (.int .i64 (d.2.1))), (.dv [] (a0y (d.2.2.1))), (.dv [] (a0A (d.2.2.2)))]), (4, 27, [(.dv [] (.str (ByteArray.empty))), (.dv [] (.int .i64 (0))), .nil, .nil]), (7, 27, [(.dv [] (.str (c.1))), (.dv [] (.int .i64 (c.2.1))), (.key 90031), (.key 90900)])], [(90031, some (a0b false (.sl 77 3 (c.2.2.1.length) (c.2.2.1.flatMap a1O)))), (90900, some (a0b false (.sl 79 2 (c.2.2.2.length) (c.2.2.2.flatMap a2y)))), (95000, some (a0b false (.sl 3 1 (acc.length) (acc.flatMap a4c))))]⟩ : St)
 iterate 3 refine z ?_
 refine a0s ?_
 refine yQ rfl (fun c2 => ?_) fun c2 => ?_
 ·have d2 := of_decide_eq_true c2
  have hn2 : n < l.length := by omega
  have hrw := c0H c (l.getD (n : Int).toNat default)
  have hw2 : a1h (a1j c (l.getD (n : Int).toNat default)).1 ≤ a1h d + 1000000 * (n + 1) := Nat.le_trans hrw (by rw [Nat.mul_succ, ← Nat.add_assoc]; exact Nat.add_le_add_right hw _)
  iterate 13 refine z ?_
  refine a2I 1000 rfl rfl rfl Tryz.call42 (c6x (d := c) (o := (l.getD (n : Int).toNat default)) (by omega)) (a0g (a0a rfl) (a0u (a0d a0c (a0d a0c (a0d (a0X rfl rfl) (a0d (a0X rfl rfl) a0t))))) (a0g (a0a rfl) (a0u (a0d a0c (a0d a0c (a0d a0c (a0d a0c (a0d a0c (a0d a0c (a0d a0c a0t)))))))) a0q)) rfl rfl rfl ?_
  iterate 14 refine z ?_
  refine yQ rfl (fun c3 => ?_) fun c3 => ?_
  ·refine a0s ?_
  refine a0h (σ' := ⟨[(2, .box 2 0), (4, .box 4 0)], [(2, 27, [(.dv [] (.str (d.1))), (.dv [] (.int .i64 (d.2.1))), (.dv [] (a0y (d.2.2.1))), (.dv [] (a0A (d.2.2.2)))]), (4, 27, [(.dv [] (.str (ByteArray.empty))), (.dv [] (.int .i64 (0))), .nil, .nil])], []⟩) (a0e ⟨rfl, rfl, trivial⟩ ⟨rfl, rfl, trivial⟩ trivial rfl) ?_
  refine a0n ?_
  refine z ?_
  refine zK 90000 Tryz.call27 ?_ (hf := a6u (x := d) (by omega))
  refine a2H (k := 95000) hT rfl rfl rfl rfl rfl rfl rfl rfl ?_
  iterate 4 refine z ?_
  rw [b9I c1 hi hn2 c3]
  refine a0h (σ' := ⟨[(4, .box 4 0), (5, .one (.key 95000)), (6, .one (.dv [] (.bool (false))))], [(4, 27, [(.dv [] (.str ((d).1))), (.dv [] (.int .i64 ((d).2.1))), (.key 90031), (.key 90900)])], [(90031, some (a0b false (a0y (d.2.2.1)))), (90900, some (a0b false (a0A (d.2.2.2)))), (95000, some (a0b false (a4X ([]))))]⟩) (a0e ⟨rfl, rfl, rfl, trivial⟩ ⟨rfl, trivial⟩ ⟨rfl, rfl, rfl, trivial⟩ rfl) ?_
  iterate 7 refine z ?_
  refine a1U (a0F hT rfl rfl rfl rfl) (a0m rfl) (a0m rfl) rfl rfl rfl ?_
  first | exact ⟨rfl, rfl⟩ | skip
  ·iterate 6 refine z ?_
  refine a0h (a2R (b := 7) (i := 2) (k := 91031) (k' := 90031) rfl rfl rfl rfl (by simp) rfl rfl) ?_
  simp only [a0p, a0k, SV.kill, CV.kill, kk, Nat.reduceBEq]
  refine a0h (a2R (b := 7) (i := 3) (k := 91900) (k' := 90900) rfl rfl rfl rfl (by simp) rfl rfl) ?_
  simp only [a0p, a0k, SV.kill, CV.kill, kk, Nat.reduceBEq]
  refine a0n ?_
  iterate 2 refine z ?_
  refine a3D (k := 48) (js := []) hT rfl rfl rfl rfl rfl rfl rfl rfl rfl (a0a rfl) rfl rfl (a0o (a0R rfl) a1z rfl) (by decide) (by decide) rfl rfl ?_
  simp only [a0p, a0k, SV.kill, CV.kill, kk, Nat.reduceBEq]
  refine a3f (k := 95000) (j := 48) (cs := (acc ++ [(a1j c (l.getD (n : Int).toNat default)).2.1]).flatMap a4c) (n := (acc ++ [(a1j c (l.getD (n : Int).toNat default)).2.1]).length) hT rfl rfl rfl rfl rfl rfl rfl (a0a rfl) rfl rfl rfl (a0a rfl) rfl rfl (by decide) (by dsimp only [a0b]; omega) (by dsimp only [a0b]; omega) (by simp) (by rw [List.flatMap_append]; rfl) ?_
  simp only [a0p, a0k, SV.kill, CV.kill, kk, Nat.reduceBEq]
  refine z ?_
  refine a1J ?_
  iterate 2 refine z ?_
  refine a0n ?_
  iterate 3 refine z ?_
  refine ⟨(n + 1, (a1j c (l.getD (n : Int).toNat default)).1, acc ++ [(a1j c (l.getD (n : Int).toNat default)).2.1]), ?_, ?_, a0e ⟨rfl, rfl, rfl, rfl, rfl, rfl, rfl, trivial⟩ ⟨rfl, rfl, rfl, trivial⟩ ⟨rfl, rfl, rfl, trivial⟩ rfl⟩
  ·exact ⟨hn2, by show a1X d l = _; rw [hi]; exact b5V hn2 c3, hw2, by rw [List.length_append, hal]; rfl⟩
  ·dsimp only; omega
 ·have d2 := of_decide_eq_false c2
  iterate 12 refine z ?_
  rw [b8L c1 hi (by omega)]
  refine a0h (σ' := ⟨[(4, .box 4 0), (5, .one (.key 95000)), (6, .one (.dv [] (.bool (true))))], [(4, 27, [(.dv [] (.str (c.1))), (.dv [] (.int .i64 (c.2.1))), (.key 90031), (.key 90900)])], [(90031, some (a0b false (a0y (c.2.2.1)))), (90900, some (a0b false (a0A (c.2.2.2)))), (95000, some (a0b false (a4X (acc))))]⟩) (a0e ⟨rfl, rfl, rfl, trivial⟩ ⟨rfl, trivial⟩ ⟨rfl, rfl, rfl, trivial⟩ rfl) ?_
  refine z ?_
  refine a1U (a0F hT rfl rfl rfl rfl) (a0m rfl) (a0m rfl) rfl rfl rfl ?_
  first | exact ⟨rfl, rfl⟩ | skip
theorem b9f {d : DbT} {l : List OpT} (hb : a1h d ≤ 549755813888) : KFn Tryz.prog 7 [.agg [(.dv [] (.str (d.1))), (.dv [] (.int .i64 (d.2.1))), (.dv [] (a0y (d.2.2.1))), (.dv [] (a0A (d.2.2.2)))], .one (.dv [] (a2b (l)))] (.tup [(true, [(.dv [] (.str ((a1F d l).1.1))), (.dv [] (.int .i64 ((a1F d l).1.2.1))), (.key 90031), (.key 90900)]), (false, [(.key 95000)]), (false, [(.dv [] (.bool ((a1F d l).2.2)))])]) [(90031, some (a0b false (a0y ((a1F d l).1.2.2.1)))), (90900, some (a0b false (a0A ((a1F d l).1.2.2.2)))), (95000, some (a0b false (a4X ((a1F d l).2.1))))] := by
 refine ⟨a0Q Tryz.func7 rfl Tryz.ntmps7 Tryz.results7 rfl (fun C => ?_)⟩
 refine yF 0 0 rfl rfl fun f0_0 => ?_
 refine yF 0 1 rfl rfl fun f0_1 => ?_
 refine yF 0 2 rfl rfl fun f0_2 => ?_
 refine yF 0 3 rfl rfl fun f0_3 => ?_
 refine a1k (x := .tmp 1) (a0a rfl) fun f1 => ?_
 iterate 8 refine z ?_
 refine zK 90000 Tryz.call23 ?_ (hf := a8W (x := d) (by omega))
 iterate 4 refine z ?_
 refine a2H (k := 95000) hT rfl rfl rfl rfl rfl rfl rfl rfl ?_
 iterate 5 refine z ?_
 refine zC Tryz.call24 ?_ (hf := a9s (x := d) )
 iterate 7 refine z ?_
 refine yQ rfl (fun c1 => ?_) fun c1 => ?_
 ·iterate 7 refine z ?_
 rw [b5E c1]
 refine a0h (σ' := ⟨[(4, .box 4 0), (5, .one (.key 95000)), (6, .one (.dv [] (.bool (false))))], [(4, 27, [(.dv [] (.str ((d).1))), (.dv [] (.int .i64 ((d).2.1))), (.key 90031), (.key 90900)])], [(90031, some (a0b false (a0y (d.2.2.1)))), (90900, some (a0b false (a0A (d.2.2.2)))), (95000, some (a0b false (a4X ([]))))]⟩) (a0e ⟨rfl, rfl, rfl, trivial⟩ ⟨rfl, trivial⟩ ⟨rfl, rfl, rfl, trivial⟩ rfl) ?_
 iterate 2 refine z ?_
 refine a1U (a0F hT rfl rfl rfl rfl) (a0m rfl) (a0m rfl) rfl rfl rfl ?_
 first | exact ⟨rfl, rfl⟩ | skip
 ·have hl6 := b2M c1
 iterate 7 refine z ?_
 refine a1l (ι := Nat × DbT × List Int) (fun zz => ⟨[(1, .one (.dv [] (a2b (l)))), (2, .box 2 0), (4, .box 4 0), (7, .box 7 0), (8, .one (.key 95000)), (9, .one (.dv [] (.int .i64 ((zz.1 : Int)))))], [(2, 27, [(.dv [] (.str (d.1))), (.dv [] (.int .i64 (d.2.1))), (.dv [] (a0y (d.2.2.1))), (.dv [] (a0A (d.2.2.2)))]), (4, 27, [(.dv [] (.str (ByteArray.empty))), (.dv [] (.int .i64 (0))), .nil, .nil]), (7, 27, [(.dv [] (.str (zz.2.1.1))), (.dv [] (.int .i64 (zz.2.1.2.1))), (.key 90031), (.key 90900)])], [(90031, some (a0b false (.sl 77 3 (zz.2.1.2.2.1.length) (zz.2.1.2.2.1.flatMap a1O)))), (90900, some (a0b false (.sl 79 2 (zz.2.1.2.2.2.length) (zz.2.1.2.2.2.flatMap a2y)))), (95000, some (a0b false (.sl 3 1 (zz.2.2.length) (zz.2.2.flatMap a4c))))]⟩) (fun zz => zz.1 ≤ l.length ∧ a1X d l = a4M zz.2.2 (a1X zz.2.1 (l.drop zz.1)) ∧ a1h zz.2.1 ≤ a1h d + 1000000 * zz.1 ∧ zz.2.2.length = zz.1) (fun zz => l.length - zz.1) ((0, d, [])) ?_ (a0e ⟨rfl, rfl, rfl, rfl, rfl, rfl, trivial⟩ ⟨rfl, rfl, rfl, trivial⟩ ⟨rfl, rfl, rfl, trivial⟩ rfl) (fun zz hx => ?_)
 ·exact ⟨Nat.zero_le _, by simp [a4M], by dsimp only; omega, rfl⟩
 obtain ⟨n, c, acc⟩ := zz
 replace hx : n ≤ l.length ∧ a1X d l = a4M acc (a1X c (l.drop n)) ∧ a1h c ≤ a1h d + 1000000 * n ∧ acc.length = n := hx
 obtain ⟨hn, hi, hw, hal⟩ := hx
 show Ok _ _ _ _ _ (⟨[(1, .one (.dv [] (a2b (l)))), (2, .box 2 0), (4, .box 4 0), (7, .box 7 0), (8, .one (.key 95000)), (9, .one (.dv [] (.int .i64 ((n : Int)))))], [(2, 27, [(.dv [] (.str (d.1))), (.dv [] (.int .i64 (d.2.1))), (.dv [] (a0y (d.2.2.1))), (.dv [] (a0A (d.2.2.2)))]), (4, 27, [(.dv [] (.str (ByteArray.empty))), (.dv [] (.int .i64 (0))), .nil, .nil]), (7, 27, [(.dv [] (.str (c.1))), (.dv [] (.int .i64 (c.2.1))), (.key 90031), (.key 90900)])], [(90031, some (a0b false (.sl 77 3 (c.2.2.1.length) (c.2.2.1.flatMap a1O)))), (90900, some (a0b false (.sl 79 2 (c.2.2.2.length) (c.2.2.2.flatMap a2y)))), (95000, some (a0b false (.sl 3 1 (acc.length) (acc.flatMap a4c))))]⟩ : St)
 iterate 7 refine z ?_
 refine yQ rfl (fun c2 => ?_) fun c2 => ?_
 ·have d2 := of_decide_eq_true c2
  have hn2 : n < l.length := by omega
  have hrw := c0H c (l.getD (n : Int).toNat default)
  have hw2 : a1h (a1j c (l.getD (n : Int).toNat default)).1 ≤ a1h d + 1000000 * (n + 1) := Nat.le_trans hrw (by rw [Nat.mul_succ, ← Nat.add_assoc]; exact Nat.add_le_add_right hw _)
  iterate 4 refine z ?_
  refine a7R (σ' := ⟨[(1, .one (.dv [] (a2b (l)))), (2, .box 2 0), (4, .box 4 0), (7, .box 7 0), (8, .one (.key 95000)), (9, .one (.dv [] (.int .i64 ((n : Int))))), (10, .box 10 0), (11, .one (.dv [] (.int .i64 ((a1j (c) ((l.getD (n : Int).toNat default))).2.1)))), (12, .one (.dv [] (.bool ((a1j (c) ((l.getD (n : Int).toNat default))).2.2))))], [(2, 27, [(.dv [] (.str (d.1))), (.dv [] (.int .i64 (d.2.1))), (.dv [] (a0y (d.2.2.1))), (.dv [] (a0A (d.2.2.2)))]), (4, 27, [(.dv [] (.str (ByteArray.empty))), (.dv [] (.int .i64 (0))), .nil, .nil]), (7, 27, [(.dv [] (.str (c.1))), (.dv [] (.int .i64 (c.2.1))), (.key 90031), (.key 90900)]), (10, 27, [(.dv [] (.str ((a1j (c) ((l.getD (n : Int).toNat default))).1.1))), (.dv [] (.int .i64 ((a1j (c) ((l.getD (n : Int).toNat default))).1.2.1))), (.key 91031), (.key 91900)])], [(90031, some (a0b false (.sl 77 3 (c.2.2.1.length) (c.2.2.1.flatMap a1O)))), (90900, some (a0b false (.sl 79 2 (c.2.2.2.length) (c.2.2.2.flatMap a2y)))), (91031, some (a0b false (a0y ((a1j (c) ((l.getD (n : Int).toNat default))).1.2.2.1)))), (91900, some (a0b false (a0A ((a1j (c) ((l.getD (n : Int).toNat default))).1.2.2.2)))), (95000, some (a0b false (.sl 3 1 (acc.length) (acc.flatMap a4c))))]⟩) ?_ ?_
  ·refine a1N (oB := [2, 4, 7]) (oK := [90031, 90900, 95000]) (by kernel_rfl) rfl rfl ?_
  refine zD 0 ?_
  refine zD 1 ?_
  refine zD 2 ?_
  refine zD 3 ?_
  refine zD 4 ?_
  refine a6l (A := [(10, 10, 27, _)]) hT ⟨⟨_, _, rfl⟩, rfl, trivial⟩ ?_
  refine a8y 1000 5 rfl (by kernel_rfl) rfl rfl rfl (vok hT ⟨⟨_, _, rfl⟩, rfl, trivial⟩ (by kernel_rfl) (by kernel_rfl)) (vok hT ⟨⟨_, _, rfl⟩, rfl, trivial⟩ (by kernel_rfl) (by kernel_rfl)) rfl Tryz.call25 (c6E (d := c) (o := (l.getD (n : Int).toNat default)) (by omega)) (a0g (a0a rfl) (a0u (a0d a0c (a0d a0c (a0d (a0X rfl rfl) (a0d (a0X rfl rfl) a0t))))) (a0g (a0a rfl) (a0u (a0d a0c (a0d a0c (a0d a0c (a0d a0c (a0d a0c (a0d a0c (a0d a0c a0t)))))))) a0q)) rfl rfl rfl rfl rfl ?_
  refine a6d 6 rfl (by kernel_rfl) rfl rfl rfl (vok hT ⟨⟨_, _, rfl⟩, rfl, trivial⟩ (by kernel_rfl) (by kernel_rfl)) (vok hT ⟨⟨_, _, rfl⟩, rfl, trivial⟩ (by kernel_rfl) (by kernel_rfl)) (a0N (.inl rfl) (a0a rfl)) rfl rfl rfl rfl ?_
  refine a2C 7 rfl (by kernel_rfl) rfl rfl rfl rfl (vok hT ⟨⟨_, _, rfl⟩, rfl, trivial⟩ (by kernel_rfl) (by kernel_rfl)) (vok hT ⟨⟨_, _, rfl⟩, rfl, trivial⟩ (by kernel_rfl) (by kernel_rfl)) (a3F rfl (a0a rfl) rfl) rfl rfl ?_
  refine a2C 8 rfl (by kernel_rfl) rfl rfl rfl rfl (vok hT ⟨⟨_, _, rfl⟩, rfl, trivial⟩ (by kernel_rfl) (by kernel_rfl)) (vok hT ⟨⟨_, _, rfl⟩, rfl, trivial⟩ (by kernel_rfl) (by kernel_rfl)) (a3b rfl (a0a rfl) rfl) rfl rfl ?_
  refine a2C 9 rfl (by kernel_rfl) rfl rfl rfl rfl (vok hT ⟨⟨_, _, rfl⟩, rfl, trivial⟩ (by kernel_rfl) (by kernel_rfl)) (vok hT ⟨⟨_, _, rfl⟩, rfl, trivial⟩ (by kernel_rfl) (by kernel_rfl)) (a3b rfl (a0a rfl) rfl) rfl rfl ?_
  refine a6h (vok hT ⟨⟨_, _, rfl⟩, rfl, trivial⟩ (by kernel_rfl) (by kernel_rfl)) rfl rfl (by kernel_rfl) ?_
  dsimp only [a3k, a3d]
  refine a3C [11, 12, 13] rfl rfl (by kernel_rfl) ?_
  iterate 3 refine z ?_
  refine a1J ?_
  exact a2z (a0e ⟨rfl, rfl, rfl, rfl, rfl, rfl, rfl, rfl, rfl, trivial⟩ ⟨rfl, rfl, rfl, rfl, trivial⟩ ⟨rfl, rfl, rfl, rfl, rfl, trivial⟩ rfl)
  iterate 5 refine z ?_
  refine yQ rfl (fun c3 => ?_) fun c3 => ?_
  ·refine a0s ?_
  refine a0h (σ' := ⟨[(2, .box 2 0), (4, .box 4 0)], [(2, 27, [(.dv [] (.str (d.1))), (.dv [] (.int .i64 (d.2.1))), (.dv [] (a0y (d.2.2.1))), (.dv [] (a0A (d.2.2.2)))]), (4, 27, [(.dv [] (.str (ByteArray.empty))), (.dv [] (.int .i64 (0))), .nil, .nil])], []⟩) (a0e ⟨rfl, rfl, trivial⟩ ⟨rfl, rfl, trivial⟩ trivial rfl) ?_
  refine a0n ?_
  refine z ?_
  refine zK 90000 Tryz.call23 ?_ (hf := a8W (x := d) (by omega))
  refine a2H (k := 95000) hT rfl rfl rfl rfl rfl rfl rfl rfl ?_
  iterate 4 refine z ?_
  rw [b9I c1 hi hn2 c3]
  refine a0h (σ' := ⟨[(4, .box 4 0), (5, .one (.key 95000)), (6, .one (.dv [] (.bool (false))))], [(4, 27, [(.dv [] (.str ((d).1))), (.dv [] (.int .i64 ((d).2.1))), (.key 90031), (.key 90900)])], [(90031, some (a0b false (a0y (d.2.2.1)))), (90900, some (a0b false (a0A (d.2.2.2)))), (95000, some (a0b false (a4X ([]))))]⟩) (a0e ⟨rfl, rfl, rfl, trivial⟩ ⟨rfl, trivial⟩ ⟨rfl, rfl, rfl, trivial⟩ rfl) ?_
  iterate 7 refine z ?_
  refine a1U (a0F hT rfl rfl rfl rfl) (a0m rfl) (a0m rfl) rfl rfl rfl ?_
  first | exact ⟨rfl, rfl⟩ | skip
  ·iterate 6 refine z ?_
  refine a0h (a2R (b := 7) (i := 2) (k := 91031) (k' := 90031) rfl rfl rfl rfl (by simp) rfl rfl) ?_
  simp only [a0p, a0k, SV.kill, CV.kill, kk, Nat.reduceBEq]
  refine a0h (a2R (b := 7) (i := 3) (k := 91900) (k' := 90900) rfl rfl rfl rfl (by simp) rfl rfl) ?_
  simp only [a0p, a0k, SV.kill, CV.kill, kk, Nat.reduceBEq]
  refine a0n ?_
  iterate 2 refine z ?_
  refine a3D (k := 50) (js := []) hT rfl rfl rfl rfl rfl rfl rfl rfl rfl (a0a rfl) rfl rfl (a0o (a0R rfl) a1z rfl) (by decide) (by decide) rfl rfl ?_
  simp only [a0p, a0k, SV.kill, CV.kill, kk, Nat.reduceBEq]
  refine a3f (k := 95000) (j := 50) (cs := (acc ++ [(a1j c (l.getD (n : Int).toNat default)).2.1]).flatMap a4c) (n := (acc ++ [(a1j c (l.getD (n : Int).toNat default)).2.1]).length) hT rfl rfl rfl rfl rfl rfl rfl (a0a rfl) rfl rfl rfl (a0a rfl) rfl rfl (by decide) (by dsimp only [a0b]; omega) (by dsimp only [a0b]; omega) (by simp) (by rw [List.flatMap_append]; rfl) ?_
  simp only [a0p, a0k, SV.kill, CV.kill, kk, Nat.reduceBEq]
  refine z ?_
  refine a1J ?_
  iterate 2 refine z ?_
  refine a0n ?_
  iterate 4 refine z ?_
  refine ⟨(n + 1, (a1j c (l.getD (n : Int).toNat default)).1, acc ++ [(a1j c (l.getD (n : Int).toNat default)).2.1]), ?_, ?_, a0e ⟨rfl, rfl, rfl, rfl, rfl, rfl, trivial⟩ ⟨rfl, rfl, rfl, trivial⟩ ⟨rfl, rfl, rfl, trivial⟩ rfl⟩
  ·exact ⟨hn2, by show a1X d l = _; rw [hi]; exact b5V hn2 c3, hw2, by rw [List.length_append, hal]; rfl⟩
  ·dsimp only; omega
 ·have d2 := of_decide_eq_false c2
  iterate 12 refine z ?_
  rw [b8L c1 hi (by omega)]
  refine a0h (σ' := ⟨[(4, .box 4 0), (5, .one (.key 95000)), (6, .one (.dv [] (.bool (true))))], [(4, 27, [(.dv [] (.str (c.1))), (.dv [] (.int .i64 (c.2.1))), (.key 90031), (.key 90900)])], [(90031, some (a0b false (a0y (c.2.2.1)))), (90900, some (a0b false (a0A (c.2.2.2)))), (95000, some (a0b false (a4X (acc))))]⟩) (a0e ⟨rfl, rfl, rfl, trivial⟩ ⟨rfl, trivial⟩ ⟨rfl, rfl, rfl, trivial⟩ rfl) ?_
  refine z ?_
  refine a1U (a0F hT rfl rfl rfl rfl) (a0m rfl) (a0m rfl) rfl rfl rfl ?_
  first | exact ⟨rfl, rfl⟩ | skip
theorem b3t {α : Type} {w : α → Nat} {B : Nat} : ∀ (l : List α), (∀ x ∈ l, w x ≤ B) → a0V w l ≤ l.length * B
 | [], _ => by simp [a0V]
 | x :: l, h => by
 have h1 := b3t l (fun y hy => h y (by simp [hy]))
 have h2 := h x (by simp)
 have e : a0V w (x :: l) = w x + a0V w l := by simp [a0V]
 rw [e, List.length_cons, Nat.add_mul, Nat.one_mul]; omega
theorem b8G {s : a0G} (h : a1i s = true) : s.1.size ≤ 8 := by
 simp only [a1i, Bool.and_eq_true] at h
 have := h.2.1.1
 simp only [a2g, Bool.and_eq_true, decide_eq_true_eq] at this
 omega
theorem b7c (s : Str) : s.size = s.toList.length := by rw [a9W]; rfl
theorem c5G {d : DbT} (h : a1e d = true) : a1h d ≤ 5000000 := by
 have hst := b0s h
 rw [a1e] at h
 simp only [Bool.and_eq_true] at h
 obtain ⟨hh, _, hu⟩ := h
 simp only [a6F, Bool.and_eq_true, decide_eq_true_eq] at hh
 obtain ⟨⟨⟨hn, _⟩, hl1⟩, hl2⟩ := hh
 simp only [a2g, Bool.and_eq_true, decide_eq_true_eq] at hn
 have hs : ∀ s ∈ d.2.2.1, a1i s = true := fun s hs => by
 obtain ⟨i, hi, rfl⟩ := List.mem_iff_getElem.1 hs
 have := a5L (d := d) (i := (i : Int)) hst (by omega) (by omega)
 simpa [List.getD, List.getElem?_eq_getElem hi] using this
 have h1 := b3t (w := a1g) (B := 1000 * 1000) d.2.2.1 (fun s hm => a6C (hs s hm))
 have h2 := b3t (w := a2Y) (B := 16) d.2.2.2 (fun x hm => by
 obtain ⟨i, hi, rfl⟩ := List.mem_iff_getElem.1 hm
 simp only [a7I, List.all_eq_true] at hu
 have h3 := hu i (List.mem_range.2 hi)
 have ex : d.2.2.2.getD i default = d.2.2.2[i] := by simp [List.getD, List.getElem?_eq_getElem hi]
 simp only [a3l, Int.toNat_natCast, ex, Bool.not_eq_true', Bool.or_eq_false_iff, decide_eq_false_iff_not, Bool.not_eq_false'] at h3
 obtain ⟨⟨⟨h4, h5⟩, _⟩, _⟩ := h3
 simp only [a2g, Bool.and_eq_true, decide_eq_true_eq] at h5
 rcases a9D (p := a0E d.2.2.2[i].1) (d := default) d.2.2.1 0 (by omega) with ⟨h6, _⟩ | ⟨m, h6, _, _, h7⟩
 ·exact absurd (show a1D d d.2.2.2[i].1 < 0 by show a0r _ _ _ < 0; omega) h4
 ·have hm' : d.2.2.1.getD m default ∈ d.2.2.1 := by simp [List.getD, List.getElem?_eq_getElem h6]
  have h8 := b8G (hs _ hm')
  have h9 : (d.2.2.1.getD m default).1.toList = d.2.2.2[i].1.toList := by simpa [a0E, sEq] using h7
  have h10 : d.2.2.2[i].1.size ≤ 8 := by rw [b7c, ← h9, ← b7c]; exact h8
  have h11 : a2Y d.2.2.2[i] = d.2.2.2[i].1.size + d.2.2.2[i].2.size := rfl
  rw [h11]; omega)
 have h3 : a1h d = d.1.size + a2e a1g d.2.2.1 + a2e a2Y d.2.2.2 := rfl
 have h4 : a2e a1g d.2.2.1 = d.2.2.1.length + a0V a1g d.2.2.1 := rfl
 have h5 : a2e a2Y d.2.2.2 = d.2.2.2.length + a0V a2Y d.2.2.2 := rfl
 have h6 : d.2.2.1.length ≤ 4 := by omega
 have h7 : d.2.2.2.length ≤ 4 := by omega
 have h8 : d.2.2.1.length * (1000 * 1000) ≤ 4 * (1000 * 1000) := Nat.mul_le_mul_right _ h6
 omega
theorem c3B {d : DbT} {o : OpT} (h : (a1j d o).2.2 = true) : a1e (a1j d o).1 = true := by
 unfold a1j at h ⊢
 split at h
 ·cases h
 ·rename_i h1
 split at h
 ·cases h
 ·rename_i h2
  rw [if_neg h1, if_neg h2]
  have h2 : (!(opM (a2S d o) o).2.2 || !a1e (a3o d (a1D d o.2.1).toNat (opM (a2S d o) o).1)) = false := by simpa using h2
  simp only [Bool.or_eq_false_iff, Bool.not_eq_false'] at h2
  exact h2.2
theorem b2O : ∀ (l : List OpT) (c c' : DbT) (ns : List Int), a1X c l = some (c', ns) → c' = c ∨ a1e c' = true
 | [], c, c', ns, h => by simp only [a1X, Option.some.injEq, Prod.mk.injEq] at h; exact .inl h.1.symm
 | o :: os, c, c', ns, h => by
 rw [a1X] at h
 split at h
 ·rename_i hk
  cases hq : a1X (a1j c o).1 os with
  | none => rw [hq] at h; cases h
  | some r =>
  rw [hq] at h
  simp only [Option.map_some, Option.some.injEq, Prod.mk.injEq] at h
  rcases b2O os (a1j c o).1 r.1 r.2 hq with h2 | h2
  ·right; rw [← h.1, h2]; exact c3B hk
  ·right; rw [← h.1]; exact h2
 ·cases h
theorem b6O (d : DbT) (l : List OpT) : a1h (a1F d l).1 ≤ a1h d ∨ a1h (a1F d l).1 ≤ 5000000 := by
 unfold a1F
 split
 ·exact .inl (Nat.le_refl _)
 ·cases hq : a1X d l with
 | none => exact .inl (Nat.le_refl _)
 | some r =>
  rcases b2O l d r.1 r.2 hq with h | h
  ·left; show a1h r.1 ≤ _; rw [h]; exact Nat.le_refl _
  ·right; exact c5G h
def a2m (x : a3q) : a3q := (x.1, x.2.1.take (rl x.2.1).2, ((rl x.2.1).1.length : Int))
theorem c6e {x : a3q} (hb : a2X x ≤ 2097152) : KFn Tryz.prog 10 [.agg [(.dv [] (.str (x.1.1))), (.dv [] (.int .i64 (x.1.2.1))), (.dv [] (a0y (x.1.2.2.1))), (.dv [] (a0A (x.1.2.2.2))), (.dv [] (a0l (x.2.1))), (.dv [] (.int .i64 (x.2.2)))]] (.agg [(.dv [] (.str ((a2m x).1.1))), (.dv [] (.int .i64 ((a2m x).1.2.1))), (.key 10031), (.key 10900), (.key 8000), (.dv [] (.int .i64 ((a2m x).2.2)))]) [(10031, some (a0b false (a0y ((a2m x).1.2.2.1)))), (10900, some (a0b false (a0A ((a2m x).1.2.2.2)))), (8000, some (a0b false (a0l ((a2m x).2.1))))] := by
 refine ⟨a0Q Tryz.func10 rfl Tryz.ntmps10 Tryz.results10 rfl (fun C => ?_)⟩
 have hwk : a2X x = a1h x.1 + x.2.1.length := rfl
 have hcn := b0Y x.2.1
 refine yF 0 0 rfl rfl fun f0_0 => ?_
 refine yF 0 1 rfl rfl fun f0_1 => ?_
 refine yF 0 2 rfl rfl fun f0_2 => ?_
 refine yF 0 3 rfl rfl fun f0_3 => ?_
 refine yF 0 4 rfl rfl fun f0_4 => ?_
 refine yF 0 5 rfl rfl fun f0_5 => ?_
 iterate 6 refine z ?_
 refine zK 5000 Tryz.call19 ?_ (hf := b3X (x := x) (by omega))
 iterate 6 refine z ?_
 refine zK 8000 Tryz.call30 ?_ (hf := c7l (b := x.2.1) (by omega))
 iterate 6 refine z ?_
 refine zC Tryz.call31 ?_ (hf := c5b (b := x.2.1) (by omega))
 iterate 7 refine z ?_
 refine a0h (σ' := ⟨[(2, .box 2 0)], [(2, 29, [(.dv [] (.str ((a2m x).1.1))), (.dv [] (.int .i64 ((a2m x).1.2.1))), (.key 10031), (.key 10900), (.key 8000), (.dv [] (.int .i64 ((a2m x).2.2)))])], [(10031, some (a0b false (a0y ((a2m x).1.2.2.1)))), (10900, some (a0b false (a0A ((a2m x).1.2.2.2)))), (8000, some (a0b false (a0l ((a2m x).2.1))))]⟩) (a0e ⟨rfl, trivial⟩ ⟨rfl, trivial⟩ ⟨rfl, rfl, rfl, trivial⟩ rfl) ?_
 refine z ?_
 refine a1r (a0F hT rfl rfl rfl rfl) ?_
 exact ⟨rfl, rfl⟩
theorem b1m (n : Nat) : 0 < (uvL n).length := by
 by_cases h : n < 128
 ·rw [a6O h]; simp
 ·rw [a8B h]; simp
theorem c7o (f k acc n : Nat) (r : List UInt8) (h : n < 128) (hz : 0 < k → 0 < n) (hm : acc + n * 2 ^ (7 * k) ≤ 1000000000000) :
 rdF (f + 1) k acc (UInt8.ofNat n :: r) = some (acc + n * 2 ^ (7 * k), k + 1) := by
 have h1 : (UInt8.ofNat n).toNat = n := by simp; omega
 have h2 : n % 128 = n := Nat.mod_eq_of_lt h
 unfold rdF
 rw [h1, h2, if_pos h, if_neg (by omega)]
theorem c1i (f k acc n : Nat) (r : List UInt8) : rdF (f + 1) k acc (UInt8.ofNat (n % 128 + 128) :: r) = rdF f (k + 1) (acc + (n % 128) * 2 ^ (7 * k)) r := by
 have h1 : (UInt8.ofNat (n % 128 + 128)).toNat = n % 128 + 128 := by simp; omega
 conv => lhs; unfold rdF
 rw [h1, if_neg (by omega), show (n % 128 + 128) % 128 = n % 128 by omega]
theorem b5c (n k : Nat) : n * 2 ^ (7 * k) = (n % 128) * 2 ^ (7 * k) + (n / 128) * 2 ^ (7 * (k + 1)) := by
 rw [show 7 * (k + 1) = 7 + 7 * k by omega, Nat.pow_add, ← Nat.mul_assoc, ← Nat.add_mul]
 congr 1
 omega
theorem b5W : ∀ (f k acc n : Nat) (r : List UInt8), (uvL n).length ≤ f → (0 < k → 0 < n) → acc + n * 2 ^ (7 * k) ≤ 1000000000000 →
 rdF f k acc (uvL n ++ r) = some (acc + n * 2 ^ (7 * k), k + (uvL n).length)
 | 0, k, acc, n, r, h, _, _ => by have := b1m n; omega
 | f + 1, k, acc, n, r, h, hz, hm => by
 by_cases h1 : n < 128
 ·rw [a6O h1, List.singleton_append, c7o f k acc n r h1 hz hm]; rfl
 ·rw [a8B h1] at h ⊢
  rw [List.cons_append, c1i, b5W f (k + 1) _ (n / 128) r (by simpa using h) (by omega) (by rw [Nat.add_assoc, ← b5c]; exact hm), Nat.add_assoc, ← b5c]
  simp only [List.length_cons, Option.some.injEq, Prod.mk.injEq, true_and]
  omega
theorem c2h {n : Nat} (hn : n ≤ 1000000000000) : (uvL n).length ≤ 6 := b3Q 5 n (by omega)
theorem a9z {b : List UInt8} {p n : Nat} {r : List UInt8} (h : b.drop p = uvL n ++ r) (hn : n ≤ 1000000000000) : rdU b (p : Int) = some (n, (uvL n).length) ∧ b.drop (p + (uvL n).length) = r ∧ p + (uvL n).length ≤ b.length := by
 have h0 := b1m n
 have hl : (b.drop p).length = (uvL n).length + r.length := by rw [h, List.length_append]
 rw [List.length_drop] at hl
 refine ⟨?_, ?_, by omega⟩
 ·unfold rdU
 rw [if_pos (by omega), Int.toNat_natCast, h, b5W 6 0 0 n r (c2h hn) (by omega) (by simpa using hn)]
 simp
 ·rw [← List.drop_drop, h, List.drop_left]
theorem b9R : ∀ (f k acc : Nat) (l : List UInt8) (v m : Nat), rdF f k acc l = some (v, m) → ∃ n r, v = acc + n * 2 ^ (7 * k) ∧ l = uvL n ++ r ∧ m = k + (uvL n).length ∧ (0 < k → 0 < n)
 | 0, _, _, _, _, _, h => by simp [rdF] at h
 | _ + 1, _, _, [], _, _, h => by simp [rdF] at h
 | f + 1, k, acc, x :: r, v, m, h => by
 unfold rdF at h
 split at h
 ·rename_i hx
  split at h
  ·cases h
  ·rename_i h2
  simp only [Option.some.injEq, Prod.mk.injEq] at h
  have e1 : x.toNat % 128 = x.toNat := Nat.mod_eq_of_lt hx
  refine ⟨x.toNat, r, by rw [← h.1, e1], ?_, ?_, by omega⟩
  ·rw [a6O hx]; simp
  ·rw [a6O hx, ← h.2]; rfl
 ·rename_i hx
  obtain ⟨n, s, h1, h2, h3, h4⟩ := b9R f (k + 1) _ r v m h
  have hxl := x.toNat_lt
  have hn := h4 (by omega)
  have e1 : (x.toNat % 128 + n * 128) % 128 = x.toNat % 128 := by omega
  have e2 : (x.toNat % 128 + n * 128) / 128 = n := by omega
  have e3 : ¬ x.toNat % 128 + n * 128 < 128 := by omega
  refine ⟨x.toNat % 128 + n * 128, s, ?_, ?_, ?_, by omega⟩
  ·rw [h1, b5c (x.toNat % 128 + n * 128) k, e1, e2, Nat.add_assoc]
  ·rw [a8B e3, e1, e2, List.cons_append, ← h2]
  congr 1
  have : x.toNat % 128 + 128 = x.toNat := by omega
  rw [this]; simp
  ·rw [a8B e3, e2, h3, List.length_cons]; omega
theorem b9v {b : List UInt8} {off : Int} {v k : Nat} (h : rdU b off = some (v, k)) : ∃ p : Nat, off = (p : Int) ∧ b.drop p = uvL v ++ b.drop (p + k) ∧ p + k ≤ b.length ∧ v ≤ 1000000000000 ∧ k = (uvL v).length := by
 obtain ⟨o, p, h1, h2, h3, h4, h5⟩ := a8x h
 unfold rdU at h
 split at h
 ·obtain ⟨n, r, g1, g2, g3, _⟩ := b9R _ _ _ _ _ _ h
 have e : v = n := by simpa using g1
 subst e
 have e2 : k = (uvL v).length := by omega
 rw [h1, Int.toNat_natCast] at g2
 refine ⟨o, h1, ?_, by omega, h5, e2⟩
 rw [← List.drop_drop, g2, e2, List.drop_left]
 ·cases h
theorem a9Y {b : List UInt8} {p : Nat} {d r : List UInt8} {m : Int} (h : b.drop p = uvL d.length ++ d ++ r) (hd : d.length ≤ 1000000000000) (hm : (d.length : Int) ≤ m) : rdB b (p : Int) m = some (d, p + (uvL d.length).length + d.length) ∧ b.drop (p + (uvL d.length).length + d.length) = r ∧ p + (uvL d.length).length + d.length ≤ b.length := by
 rw [List.append_assoc] at h
 obtain ⟨h1, h2, h3⟩ := a9z h hd
 have hl : (b.drop (p + (uvL d.length).length)).length = d.length + r.length := by rw [h2, List.length_append]
 rw [List.length_drop] at hl
 refine ⟨?_, ?_, by omega⟩
 ·unfold rdB
 rw [h1]
 simp only [Int.toNat_natCast]
 rw [if_pos ⟨hm, by omega⟩, h2, List.take_left]
 ·rw [← List.drop_drop, h2, List.drop_left]
theorem c2n {b : List UInt8} {off m : Int} {d : List UInt8} {q : Nat} (h : rdB b off m = some (d, q)) : ∃ p : Nat, off = (p : Int) ∧ b.drop p = uvL d.length ++ (d ++ b.drop q) ∧ q ≤ b.length ∧ (d.length : Int) ≤ m ∧ d.length ≤ 1000000000000 ∧ p < q := by
 unfold rdB at h
 split at h
 ·cases h
 ·rename_i v k hu
 obtain ⟨p, h1, h2, h3, h4, h5⟩ := b9v hu
 split at h
 ·rename_i hc
  subst h1
  simp only [Option.some.injEq, Prod.mk.injEq, Int.toNat_natCast] at h hc
  obtain ⟨rfl, rfl⟩ := h
  have hl : ((b.drop (p + k)).take v).length = v := by rw [List.length_take, List.length_drop]; omega
  refine ⟨p, rfl, ?_, by omega, by omega, by omega, by have := b1m v; omega⟩
  rw [hl, h2, ← List.drop_drop (i := v), List.take_append_drop]
 ·cases h
theorem b0H (s : Str) : a2f s.data.toList = s := by simp [a2f]
theorem b0o (x y : List UInt8) : eqL a4b x y = decide (x = y) := by
 by_cases h : x = y
 ·subst h
 rw [decide_eq_true rfl]
 refine a8U (k := x.length) rfl ?_ rfl
 rw [List.all_eq_true]
 intro i _
 simp [a4b]
 ·rw [decide_eq_false h]
 cases he : eqL a4b x y with
 | false => rfl
 | true =>
  exfalso
  apply h
  simp only [eqL, Bool.and_eq_true, decide_eq_true_eq, List.all_eq_true] at he
  have hl : x.length = y.length := by omega
  apply List.ext_getElem hl
  intro i h1 h2
  have := he.2 i (List.mem_range.2 h1)
  rw [a3I h1, a3I h2] at this
  simp only [a4b, decide_eq_true_eq] at this
  exact UInt8.toNat_inj.1 (by omega)
def a2O (l : List UInt8) : Nat := l.foldl (fun n x => n * 256 + x.toNat) 0
theorem b9S (l : List UInt8) (x : UInt8) : a2O (l ++ [x]) = a2O l * 256 + x.toNat := by simp [a2O]
theorem b5Z {l : List UInt8} {k : Nat} (h : k < l.length) : l.take (k + 1) = l.take k ++ [l.getD (k : Int).toNat default] := by
 rw [List.take_add_one, List.getElem?_eq_getElem h, a3I h]; rfl
theorem c6b {l : List UInt8} {k : Nat} (h : k < l.length) : a2O (l.take (k + 1)) = a2O (l.take k) * 256 + (l.getD (k : Int).toNat default).toNat := by rw [b5Z h, b9S]
theorem b9n (l : List UInt8) : a2O l < 256 ^ l.length := by
 have key : ∀ (n : Nat) (l : List UInt8), l.length = n → a2O l < 256 ^ n := by
 intro n
 induction n with
 | zero => intro l h; have : l = [] := List.eq_nil_of_length_eq_zero h; subst this; simp [a2O]
 | succ n ih =>
  intro l h
  have h1 := ih (l.take n) (by rw [List.length_take]; omega)
  have e : l = l.take n ++ [l.getD (n : Int).toNat default] := by rw [← b5Z (by omega), List.take_of_length_le (by omega)]
  rw [e, b9S, Nat.pow_succ]
  have := (l.getD (n : Int).toNat default).toNat_lt
  omega
 exact key _ l rfl
theorem c8j {l : List UInt8} (h : l.length = 6) : be6 (a2O l) = l := by
 match l, h with
 | [a, b, c, d, e, f], _ =>
 have ha := a.toNat_lt; have hb := b.toNat_lt; have hc := c.toNat_lt; have hd := d.toNat_lt; have he := e.toNat_lt; have hf := f.toNat_lt
 have e1 : a2O [a, b, c, d, e, f] = ((((a.toNat * 256 + b.toNat) * 256 + c.toNat) * 256 + d.toNat) * 256 + e.toNat) * 256 + f.toNat := by simp [a2O]
 rw [e1]
 have r : List.range 6 = [0, 1, 2, 3, 4, 5] := rfl
 unfold be6
 rw [r]
 simp only [List.map_cons, List.map_nil, List.cons.injEq, and_true]
 refine ⟨?_, ?_, ?_, ?_, ?_, ?_⟩ <;> apply UInt8.toNat_inj.1 <;> simp <;> omega
def kOf (b : List UInt8) : a0L := if ((b.getD 0 default).toNat : Int) = 2 then (2, 0, a2f (b.drop 1)) else (((b.getD 0 default).toNat : Int), (a2O ((b.drop 1).take 6) : Int) - 1000000000000, a2f ((b.drop 1).drop 6))
def a3K (b : List UInt8) : a0L × Bool :=
 if b.length = 0 then ((0, 0, ByteArray.empty), false)
 else if ¬ ((b.getD 0 default).toNat : Int) = 2 ∧ b.length < 7 then ((0, 0, ByteArray.empty), false)
 else if a0Z (kOf b) = true then (kOf b, true) else ((0, 0, ByteArray.empty), false)
theorem b7g {b : List UInt8} (h : b.length ≠ 0) : b.getD 0 default :: b.drop 1 = b := by
 match b, h with
 | x :: xs, _ => rfl
theorem b6Y (x : UInt8) : UInt8.ofNat ((x.toNat : Int)).toNat = x := by rw [Int.toNat_natCast]; simp
theorem c6A {b : List UInt8} (h : b.length ≠ 0) (h7 : ((b.getD 0 default).toNat : Int) = 2 ∨ 7 ≤ b.length) : (a1C (kOf b) = b) ↔ a0Z (kOf b) = true := by
 constructor
 ·intro e
 cases hk : a0Z (kOf b) with
 | true => rfl
 | false => rw [a7U hk] at e; rw [← e] at h; simp at h
 ·intro hk
 by_cases h2 : ((b.getD 0 default).toNat : Int) = 2
 ·have e : kOf b = (((b.getD 0 default).toNat : Int), 0, a2f (b.drop 1)) := by rw [kOf, if_pos h2, h2]
  rw [e] at hk ⊢
  rw [b2Y hk h2]
  simp only [b6Y, b0C]
  exact b7g h
 ·have e : kOf b = (((b.getD 0 default).toNat : Int), (a2O ((b.drop 1).take 6) : Int) - 1000000000000, a2f ((b.drop 1).drop 6)) := by rw [kOf, if_neg h2]
  have h7' : 7 ≤ b.length := h7.resolve_left h2
  have hl : ((b.drop 1).take 6).length = 6 := by rw [List.length_take, List.length_drop]; omega
  rw [e] at hk ⊢
  rw [b2q (j := 6) hk h2 (Nat.le_refl _)]
  have e2 : keyN (((b.getD 0 default).toNat : Int), (a2O ((b.drop 1).take 6) : Int) - 1000000000000, a2f ((b.drop 1).drop 6)) = a2O ((b.drop 1).take 6) := by
  show ((a2O ((b.drop 1).take 6) : Int) - 1000000000000 + 1000000000000).toNat = _
  omega
  rw [e2, c8j hl, List.take_of_length_le (l := (b.drop 1).take 6) (i := 6) (by rw [hl]; exact Nat.le_refl _)]
  simp only [b6Y, b0C]
  rw [List.cons_append, List.take_append_drop]
  exact b7g h
theorem b1W {b : List UInt8} (h : ((b.getD 0 default).toNat : Int) = 2) : (((b.getD (0 : Int).toNat default).toNat : Int), (0 : Int), a2f (b.drop 1)) = kOf b := by
 rw [kOf, if_pos h]
 show ((((b.getD 0 default).toNat : Int)), _, _) = _
 rw [h]
theorem b1z {b r : List UInt8} {acc : Nat} (h : ¬ ((b.getD 0 default).toNat : Int) = 2) (hf : acc = a2O ((b.drop (1 : Int).toNat).take (6 : Int).toNat)) (hr : r = (b.drop 1).drop 6) : (((b.getD (0 : Int).toNat default).toNat : Int), (acc : Int) - 1000000000000, a2f r) = kOf b := by
 subst hf; subst hr
 rw [kOf, if_neg h]; rfl
theorem b8z {b : List UInt8} (h : b.length = 0) : a3K b = ((0, 0, ByteArray.empty), false) := by rw [a3K, if_pos h]
theorem c2E {b : List UInt8} (h : ¬ ((b.getD 0 default).toNat : Int) = 2) (h7 : b.length < 7) : a3K b = ((0, 0, ByteArray.empty), false) := by
 unfold a3K
 split
 ·rfl
 ·rw [if_pos ⟨h, h7⟩]
theorem b3U {b : List UInt8} {k : a0L} (h : b.length ≠ 0) (h7 : ((b.getD 0 default).toNat : Int) = 2 ∨ 7 ≤ b.length) (hk : k = kOf b) (hi : a0Z k = true) : a3K b = (k, true) := by
 subst hk
 rw [a3K, if_neg h, if_neg (by omega), if_pos hi]
theorem b9C {b : List UInt8} {k : a0L} (h : b.length ≠ 0) (h7 : ((b.getD 0 default).toNat : Int) = 2 ∨ 7 ≤ b.length) (hk : k = kOf b) (hi : a0Z k = false) : a3K b = ((0, 0, ByteArray.empty), false) := by
 subst hk
 rw [a3K, if_neg h, if_neg (by omega), if_neg (by rw [hi]; simp)]
theorem b1K {b : List UInt8} {k : a0L} {c : Bool} (h : b.length ≠ 0) (h7 : ((b.getD 0 default).toNat : Int) = 2 ∨ 7 ≤ b.length) (hk : k = kOf b) (hc : (!eqL a4b (a1C k) b) = c) : a0Z k = !c := by
 subst hk
 rw [b0o] at hc
 have := c6A h h7
 cases hi : a0Z (kOf b) with
 | true => rw [hi] at this; rw [← hc, decide_eq_true (this.2 rfl)]; rfl
 | false => rw [hi] at this; rw [← hc, decide_eq_false (fun e => absurd (this.1 e) (by simp))]; rfl
theorem b7h (x : UInt8) : IntKind.i64.wrap ((x.toNat : Nat) : Int) = ((x.toNat : Nat) : Int) := by
 have := x.toNat_lt
 rw [IntKind.wrap_i64]; omega
theorem c6S {l : List UInt8} {k : Nat} (h : k < 6) : a2O (l.take k) < 1099511627776 := by
 have h1 := b9n (l.take k)
 have h2 : 256 ^ (l.take k).length ≤ 256 ^ 5 := Nat.pow_le_pow_right (by omega) (by rw [List.length_take]; omega)
 omega
theorem c2Y {a : Nat} (h : a < 1099511627776) : IntKind.i64.wrap ((a : Int) * ((2 ^ (8 : Int).toNat : Nat) : Int)) = (a : Int) * 256 := by
 rw [show ((2 ^ (8 : Int).toNat : Nat) : Int) = 256 from rfl, IntKind.wrap_i64]; omega
theorem c5S {b : List UInt8} (hb : b.length ≤ 16777216) : PFn Tryz.prog 60 [.one (.dv [] (a0l (b)))] (.tup [(true, [(.dv [] (.int .i64 ((a3K b).1.1))), (.dv [] (.int .i64 ((a3K b).1.2.1))), (.dv [] (.str ((a3K b).1.2.2)))]), (false, [(.dv [] (.bool ((a3K b).2)))])]) := by
 refine ⟨a0Q Tryz.func60 rfl Tryz.ntmps60 Tryz.results60 rfl (fun C => ?_)⟩
 refine a1k (x := .tmp 0) (a0a rfl) fun f0 => ?_
 iterate 10 refine z ?_
 refine yQ rfl (fun c1 => ?_) fun c1 => ?_
 ·have d1 := of_decide_eq_true c1
 refine z ?_
 refine yO rfl rfl (a1v hT hB rfl rfl rfl a1w) rfl ?_
 iterate 5 refine z ?_
 refine a1u (a0F hT rfl rfl rfl rfl) (a0m rfl) rfl rfl ?_
 rw [b8z (by omega)]
 rfl
 ·have d1 := of_decide_eq_false c1
 have hne : b.length ≠ 0 := by omega
 have hdl : (b.drop (1 : Int).toNat).length = b.length - 1 := List.length_drop ..
 iterate 6 refine z ?_
 refine yO rfl rfl (a3E (a6M hT rfl rfl rfl (a0a rfl)) (b7h _)) rfl ?_
 refine yO rfl rfl (a1v hT hB rfl rfl rfl (a1c (a0a rfl) rfl rfl rfl rfl rfl a1w)) rfl ?_
 iterate 5 refine z ?_
 refine yO rfl rfl (b4R hT rfl rfl rfl (a0a rfl) (a0j (a0i rfl)) (fun _ => rfl) (by omega) (by omega)) rfl ?_
 iterate 8 refine z ?_
 refine yQ rfl (fun c2 => ?_) fun c2 => ?_
 ·have d2 := a6g c2
  iterate 6 refine z ?_
  refine yQ rfl (fun c3 => ?_) fun c3 => ?_
  ·have d3 := of_decide_eq_true c3
  refine z ?_
  refine yO rfl rfl (a1v hT hB rfl rfl rfl a1w) rfl ?_
  iterate 6 refine z ?_
  refine a1u (a0F hT rfl rfl rfl rfl) (a0m rfl) rfl rfl ?_
  rw [c2E (show ¬ ((b.getD 0 default).toNat : Int) = 2 from d2) (by omega)]
  rfl
  ·have d3 := of_decide_eq_false c3
  have hxl : ((b.drop (1 : Int).toNat).take (6 : Int).toNat).length = 6 := by rw [List.length_take]; show min 6 (b.drop 1).length = 6; rw [List.length_drop]; omega
  iterate 8 refine z ?_
  refine yO rfl rfl (b2d hT rfl rfl rfl (a0a rfl) (a0j (a0i rfl)) (fun _ => rfl) (by omega) (by omega)) rfl ?_
  iterate 4 refine z ?_
  refine a1l (ι := Nat × Nat) (fun zz => ⟨[(0, .one (.dv [] (a0l (b)))), (2, .box 2 0), (3, .one (.dv [] (.bool (false)))), (4, .box 4 0), (5, .one (.dv [] (a0l (((b)).drop ((1 : Int)).toNat)))), (6, .one (.dv [] (.int .i64 ((zz.2 : Int))))), (28, .one (.dv [] (a0l (((((b)).drop ((1 : Int)).toNat)).take ((6 : Int)).toNat)))), (29, .one (.dv [] (.int .i64 ((((((((b)).drop ((1 : Int)).toNat)).take ((6 : Int)).toNat)).length : Int))))), (30, .one (.dv [] (.int .i64 ((zz.1 : Int)))))], [(2, 60, [(.dv [] (.int .i64 (0))), (.dv [] (.int .i64 (0))), (.dv [] (.str (ByteArray.empty)))]), (4, 60, [(.dv [] (.int .i64 (((b.getD (0 : Int).toNat default).toNat : Int)))), (.dv [] (.int .i64 (0))), (.dv [] (.str (ByteArray.empty)))])], []⟩) (fun zz => zz.1 ≤ 6 ∧ zz.2 = a2O (((b.drop (1 : Int).toNat).take (6 : Int).toNat).take zz.1)) (fun zz => 6 - zz.1) ((0, 0)) ?_ (a0e ⟨rfl, rfl, rfl, rfl, rfl, rfl, rfl, rfl, rfl, trivial⟩ ⟨rfl, rfl, trivial⟩ trivial rfl) (fun zz hx => ?_)
  ·exact ⟨Nat.zero_le _, rfl⟩
  obtain ⟨k, acc⟩ := zz
  replace hx : k ≤ 6 ∧ acc = a2O (((b.drop (1 : Int).toNat).take (6 : Int).toNat).take k) := hx
  obtain ⟨hk, ha⟩ := hx
  show Ok _ _ _ _ _ (⟨[(0, .one (.dv [] (a0l (b)))), (2, .box 2 0), (3, .one (.dv [] (.bool (false)))), (4, .box 4 0), (5, .one (.dv [] (a0l (((b)).drop ((1 : Int)).toNat)))), (6, .one (.dv [] (.int .i64 ((acc : Int))))), (28, .one (.dv [] (a0l (((((b)).drop ((1 : Int)).toNat)).take ((6 : Int)).toNat)))), (29, .one (.dv [] (.int .i64 ((((((((b)).drop ((1 : Int)).toNat)).take ((6 : Int)).toNat)).length : Int))))), (30, .one (.dv [] (.int .i64 ((k : Int)))))], [(2, 60, [(.dv [] (.int .i64 (0))), (.dv [] (.int .i64 (0))), (.dv [] (.str (ByteArray.empty)))]), (4, 60, [(.dv [] (.int .i64 (((b.getD (0 : Int).toNat default).toNat : Int)))), (.dv [] (.int .i64 (0))), (.dv [] (.str (ByteArray.empty)))])], []⟩ : St)
  iterate 3 refine z ?_
  refine a0s ?_
  refine yQ rfl (fun c4 => ?_) fun c4 => ?_
  ·have d4 := of_decide_eq_true c4
   have hk6 : k < 6 := by omega
   have hac : acc < 1099511627776 := by rw [ha]; exact c6S hk6
   have hst := c6b (l := ((b.drop (1 : Int).toNat).take (6 : Int).toNat)) (k := k) (by omega)
   rw [← ha] at hst
   have hxb := (((b.drop (1 : Int).toNat).take (6 : Int).toNat).getD (k : Int).toNat default).toNat_lt
   iterate 9 refine z ?_
   refine a0n ?_
   refine z ?_
   refine yO rfl rfl (a3E (c6h rfl (a0a rfl) (a0j (a0i rfl)) (by omega) (by show _ ≤ 64; omega)) (c2Y hac)) rfl ?_
   refine z ?_
   refine yO rfl rfl (a3E (a6M hT rfl rfl rfl (a0a rfl)) (b7h _)) rfl ?_
   iterate 2 refine z ?_
   refine a1J ?_
   iterate 2 refine z ?_
   refine a0n ?_
   iterate 3 refine z ?_
   refine ⟨(k + 1, a2O (((b.drop (1 : Int).toNat).take (6 : Int).toNat).take (k + 1))), ?_, ?_, a0e ⟨rfl, rfl, rfl, rfl, rfl, (a8n (by omega)), rfl, rfl, rfl, trivial⟩ ⟨rfl, rfl, trivial⟩ trivial rfl⟩
   ·exact ⟨by dsimp only; omega, rfl⟩
   ·dsimp only; omega
  ·have d4 := of_decide_eq_false c4
   have hke : k = 6 := by omega
   have hfin : acc = a2O ((b.drop (1 : Int).toNat).take (6 : Int).toNat) := by rw [ha, List.take_of_length_le (by omega)]
   have hfb := b9n ((b.drop (1 : Int).toNat).take (6 : Int).toNat)
   rw [hxl, ← hfin] at hfb
   iterate 11 refine z ?_
   refine a0n ?_
   refine z ?_
   refine yO rfl rfl (b4R hT rfl rfl rfl (a0a rfl) (a0j (a0i rfl)) (fun _ => rfl) (by omega) (by omega)) rfl ?_
   iterate 4 refine z ?_
   refine yO rfl rfl (a9e hT rfl rfl rfl rfl (a0a rfl)) rfl ?_
   iterate 6 refine z ?_
   refine zK 49000 Tryz.call45 ?_ (hf := a7d (k := (((b.getD (0 : Int).toNat default).toNat : Int), (acc : Int) - 1000000000000, a2f ((b.drop 1).drop 6))))
   refine z ?_
   refine a3S rfl rfl rfl Tryz.call62 (b1l (x := a1C ((((b.getD (0 : Int).toNat default).toNat : Int), (((acc : Int)) - (1000000000000), a2f ((((((b)).drop ((1 : Int)).toNat)).drop ((6 : Int)).toNat)))))) (y := b) ) (a0g (a0a rfl) (a0D (a0X rfl rfl)) (a0g (a0a rfl) (a0D a0c) a0q)) rfl rfl ?_
   iterate 2 refine z ?_
   refine yQ rfl (fun c5 => ?_) fun c5 => ?_
   ·refine z ?_
   refine yO rfl rfl (a1v hT hB rfl rfl rfl a1w) rfl ?_
   iterate 5 refine z ?_
   refine a1u (a0F hT rfl rfl rfl rfl) (a0m rfl) rfl rfl ?_
   rw [b9C (k := (((b.getD (0 : Int).toNat default).toNat : Int), (acc : Int) - 1000000000000, a2f ((b.drop 1).drop 6))) hne (.inr (by omega)) (b1z d2 hfin (by first | rfl | (rw [List.drop_drop]; rfl) | (rw [List.drop_drop]))) (b1K hne (.inr (by omega)) (b1z d2 hfin (by first | rfl | (rw [List.drop_drop]; rfl) | (rw [List.drop_drop]))) c5)]
   rfl
   ·iterate 8 refine z ?_
   refine a1u (a0F hT rfl rfl rfl rfl) (a0m rfl) rfl rfl ?_
   rw [b3U (k := (((b.getD (0 : Int).toNat default).toNat : Int), (acc : Int) - 1000000000000, a2f ((b.drop 1).drop 6))) hne (.inr (by omega)) (b1z d2 hfin (by first | rfl | (rw [List.drop_drop]; rfl) | (rw [List.drop_drop]))) (b1K hne (.inr (by omega)) (b1z d2 hfin (by first | rfl | (rw [List.drop_drop]; rfl) | (rw [List.drop_drop]))) c5)]
   rfl
 ·have d2 := a6e c2
  iterate 4 refine z ?_
  refine yO rfl rfl (a9e hT rfl rfl rfl rfl (a0a rfl)) rfl ?_
  iterate 6 refine z ?_
  refine zK 50000 Tryz.call45 ?_ (hf := a7d (k := (((b.getD (0 : Int).toNat default).toNat : Int), (0 : Int), a2f (b.drop 1))))
  refine z ?_
  refine a3S rfl rfl rfl Tryz.call62 (b1l (x := a1C ((((b.getD (0 : Int).toNat default).toNat : Int), (0, a2f ((((b)).drop ((1 : Int)).toNat)))))) (y := b) ) (a0g (a0a rfl) (a0D (a0X rfl rfl)) (a0g (a0a rfl) (a0D a0c) a0q)) rfl rfl ?_
  iterate 2 refine z ?_
  refine yQ rfl (fun c6 => ?_) fun c6 => ?_
  ·refine z ?_
  refine yO rfl rfl (a1v hT hB rfl rfl rfl a1w) rfl ?_
  iterate 5 refine z ?_
  refine a1u (a0F hT rfl rfl rfl rfl) (a0m rfl) rfl rfl ?_
  have d2' : ((b.getD 0 default).toNat : Int) = 2 := by
   have h8 := c2
   rw [Bool.not_eq_false'] at h8
   exact of_decide_eq_true h8
  rw [b9C (k := (((b.getD (0 : Int).toNat default).toNat : Int), (0 : Int), a2f (b.drop 1))) hne (.inl d2') (b1W d2') (b1K hne (.inl d2') (b1W d2') c6)]
  rfl
  ·iterate 8 refine z ?_
  refine a1u (a0F hT rfl rfl rfl rfl) (a0m rfl) rfl rfl ?_
  have d2' : ((b.getD 0 default).toNat : Int) = 2 := by
   have h8 := c2
   rw [Bool.not_eq_false'] at h8
   exact of_decide_eq_true h8
  rw [b3U (k := (((b.getD (0 : Int).toNat default).toNat : Int), (0 : Int), a2f (b.drop 1))) hne (.inl d2') (b1W d2') (b1K hne (.inl d2') (b1W d2') c6)]
  rfl
end Go.Proofs.YtkhldpbfkagdhaaGreat
